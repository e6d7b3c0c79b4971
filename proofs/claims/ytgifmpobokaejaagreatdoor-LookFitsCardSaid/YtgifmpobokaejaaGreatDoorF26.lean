/-
  Layer 1 in plain words: what was read, written once more, is the bytes that were taken. No condition but that there was no error.
-/
import Derived.Test.YtgifmpobokaejaaGreatDoorF25
import Derived.Test.YtgifmpobokaejaaGreatDoorF11
import Derived.Test.YtgifmpobokaejaaGreatDoorF24
import Derived.Test.YtgifmpobokaejaaGreatDoorF14
import Derived.Test.YtgifmpobokaejaaGreatDoorF18
namespace Go.Proofs.YtgifmpobokaejaaGreatDoor
open Go.RowKit

theorem rNum_same {k : Nat} {r : Rs} (h0 : r.e = 0) (h : (rNum k r).2.e = 0) : r.s = num (rNum k r).1 k ++ (rNum k r).2.s ∧ (rNum k r).1 < 256 ^ k := by
  unfold rNum at *
  rw [if_neg (by simpa using h0)] at *
  by_cases hs : r.s.length < k
  · rw [if_pos hs] at h; simp [Rs.fail] at h
  · rw [if_neg hs] at *
    have hl : (r.s.take k).length = k := by rw [List.length_take]; omega
    have h1 := num_beVal (r.s.take k)
    rw [hl] at h1
    have h2 := beVal_lt (r.s.take k)
    rw [hl] at h2
    exact ⟨by simp only; rw [h1, List.take_append_drop], h2⟩
theorem rU32_same {r : Rs} (h0 : r.e = 0) (h : (rU32 r).2.e = 0) : r.s = num (rU32 r).1 4 ++ (rU32 r).2.s ∧ (rU32 r).1 < 4294967296 := rNum_same h0 h
theorem rU64_same {r : Rs} (h0 : r.e = 0) (h : (rU64 r).2.e = 0) : r.s = num (rU64 r).1 8 ++ (rU64 r).2.s ∧ (rU64 r).1 < 9223372036854775808 := by
  unfold rU64 at *
  by_cases hv : 9223372036854775808 ≤ (rNum 8 r).1
  · rw [if_pos hv] at h; simp [Rs.fail] at h
  · rw [if_neg hv] at *
    exact ⟨(rNum_same h0 h).1, by omega⟩
theorem rBool_same {r : Rs} (h0 : r.e = 0) (h : (rBool r).2.e = 0) : r.s = truth (rBool r).1 ++ (rBool r).2.s := by
  unfold rBool at *
  by_cases hv : 1 < (rU32 r).1
  · rw [if_pos hv] at h; simp [Rs.fail] at h
  · rw [if_neg hv] at *
    have h1 := (rU32_same h0 h).1
    simp only
    rw [h1]
    congr 1
    unfold truth
    have : (rU32 r).1 = 0 ∨ (rU32 r).1 = 1 := by omega
    rcases this with h2 | h2 <;> rw [h2] <;> rfl
theorem zeros_eq {l : List UInt8} {n : Nat} (hl : l.length = n) (h : l.all (· == 0) = true) : l = List.replicate n 0 := by
  rw [List.all_eq_true] at h
  exact List.eq_replicate_iff.2 ⟨hl, fun x hx => by simpa using h x hx⟩
theorem rPadded_same {n : Nat} {r : Rs} (h0 : r.e = 0) (h : (rPadded n r).2.e = 0) : r.s = filled (rPadded n r).1 ++ (rPadded n r).2.s ∧ (rPadded n r).1.length = n := by
  unfold rPadded at *
  rw [if_neg (by simpa using h0)] at *
  by_cases h1 : r.s.length < n
  · rw [if_pos h1] at h; simp [Rs.fail] at h
  · rw [if_neg h1] at *
    by_cases h2 : (r.s.drop n).length < padn n
    · rw [if_pos h2] at h; simp [Rs.fail] at h
    · rw [if_neg h2] at *
      by_cases h3 : ((r.s.drop n).take (padn n)).all (· == 0) = true
      · rw [if_pos h3] at *
        have hl : (r.s.take n).length = n := by rw [List.length_take]; omega
        refine ⟨?_, hl⟩
        have hz := zeros_eq (n := padn n) (by rw [List.length_take]; omega) h3
        simp only [filled, hl, ← hz]
        rw [List.append_assoc, List.take_append_drop, List.take_append_drop]
      · rw [if_neg h3] at h; simp [Rs.fail] at h
theorem rFixed_same {n : Nat} {r : Rs} (h0 : r.e = 0) (h : (rFixed n r).2.e = 0) : r.s = filled (rFixed n r).1 ++ (rFixed n r).2.s ∧ (rFixed n r).1.length = n := by
  unfold rFixed at *
  rw [if_neg (by simpa using h0), if_neg (by omega), Int.toNat_natCast] at *
  exact rPadded_same h0 h
theorem rOpaque_same {most : Int} {r : Rs} (h0 : r.e = 0) (h : (rOpaque most r).2.e = 0) : r.s = opq (rOpaque most r).1 ++ (rOpaque most r).2.s ∧ ((rOpaque most r).1.length : Int) ≤ most := by
  unfold rOpaque at *
  by_cases h1 : (rU32 r).2.e ≠ 0
  · rw [if_pos h1] at h; exact absurd h h1
  · rw [if_neg h1] at *
    by_cases h2 : most < ((rU32 r).1 : Int)
    · rw [if_pos h2] at h; simp [Rs.fail] at h
    · rw [if_neg h2] at *
      have h1' : (rU32 r).2.e = 0 := by simpa using h1
      obtain ⟨e1, _⟩ := rU32_same h0 h1'
      obtain ⟨e2, e3⟩ := rPadded_same h1' h
      refine ⟨?_, by omega⟩
      rw [opq, e3, List.append_assoc, ← e2]
      exact e1
theorem rOpt_same {r : Rs} (h0 : r.e = 0) (h : (rOpt r).2.e = 0) : r.s = optB (rOpt r).1.1 (rOpt r).1.2 ++ (rOpt r).2.s ∧ (rOpt r).1.2 < 9223372036854775808 := by
  unfold rOpt at *
  by_cases hb : (rBool r).1 = true
  · rw [if_pos hb] at *
    by_cases he : (rU64 (rBool r).2).2.e ≠ 0
    · rw [if_pos he] at h; exact absurd h he
    · rw [if_neg he] at *
      have he' : (rU64 (rBool r).2).2.e = 0 := by simpa using he
      have hbe : (rBool r).2.e = 0 := Classical.byContradiction fun hc => by
        have : (rU64 (rBool r).2) = (0, (rBool r).2) := by simp [rU64, rNum, hc]
        rw [this] at he'; exact hc he'
      have e1 := rBool_same h0 hbe
      obtain ⟨e2, e3⟩ := rU64_same hbe he'
      refine ⟨?_, e3⟩
      simp only [optB, if_true, Int.toNat_natCast]
      rw [List.append_assoc, ← e2, ← hb]
      exact e1
  · rw [if_neg hb] at *
    have hbe : (rBool r).2.e = 0 := h
    have e1 := rBool_same h0 hbe
    have hb' : (rBool r).1 = false := by simpa using hb
    rw [hb'] at e1
    refine ⟨?_, by simp⟩
    simpa [optB] using e1
theorem tTake_same {k : Int} {r : Rs} (h0 : r.e = 0) (h : (tTake k 7 r).2.e = 0) (hk : ¬ otherKind k) : (tTake k 7 r).1.bytes ++ (tTake k 7 r).2.s = r.s ∧ (tTake k 7 r).1.err = 0 ∧ (tTake k 7 r).1.good ∧ (tTake k 7 r).1.s.length ≤ 7 := by
  rcases kind_cases k with rfl | rfl | rfl | rfl | rfl | rfl | hk'
  · obtain ⟨e1, e2⟩ := rU32_same h0 h
    have h1 : ¬ ((((rU32 r).1 : Nat) : Int) < 0 ∨ 4294967295 < (((rU32 r).1 : Nat) : Int)) := by omega
    refine ⟨?_, ?_, ⟨rfl, ?_, by simp [tTake]⟩, by simp [tTake]⟩
    · simp [tTake, Thing.bytes, h1, ← e1]
    · simp [tTake, Thing.err, h1]
    · simp only [tTake, if_true]; exact Go.WalkArith.wf_i64 ⟨by omega, by omega⟩
  · obtain ⟨e1, e2⟩ := rU64_same h0 h
    have h1 : ¬ (((rU64 r).1 : Nat) : Int) < 0 := by omega
    refine ⟨?_, ?_, ⟨rfl, ?_, by simp [tTake]⟩, by simp [tTake]⟩
    · simp [tTake, Thing.bytes, h1, ← e1]
    · simp [tTake, Thing.err, h1]
    · simp [tTake]; exact Go.WalkArith.wf_i64 ⟨by omega, by omega⟩
  · have e1 := rBool_same h0 h
    refine ⟨?_, rfl, ⟨rfl, rfl, by simp [tTake]⟩, by simp [tTake]⟩
    simp [tTake, Thing.bytes, ← e1]
  · obtain ⟨e1, e2⟩ := rFixed_same (n := 7) h0 h
    refine ⟨?_, rfl, ⟨rfl, rfl, ?_⟩, ?_⟩
    · simp [tTake, Thing.bytes]; exact e1.symm
    · simp [tTake]; unfold maxLen; have : (rFixed 7 r).1.length = 7 := e2; omega
    · simp [tTake]; have : (rFixed 7 r).1.length = 7 := e2; omega
  · obtain ⟨e1, e2⟩ := rOpaque_same h0 h
    refine ⟨?_, rfl, ⟨rfl, rfl, ?_⟩, ?_⟩
    · simp [tTake, Thing.bytes]; exact e1.symm
    · simp [tTake]; unfold maxLen; omega
    · simp [tTake]; omega
  · obtain ⟨e1, e2⟩ := rOpt_same h0 h
    have h1 : ¬ ((rOpt r).1.1 = true ∧ (((rOpt r).1.2 : Nat) : Int) < 0) := by omega
    refine ⟨?_, ?_, ⟨rfl, ?_, by simp [tTake]⟩, by simp [tTake]⟩
    · simp [tTake, Thing.bytes, h1, ← e1]
    · simp [tTake, Thing.err, h1]
    · simp [tTake]; exact Go.WalkArith.wf_i64 ⟨by omega, by omega⟩
  · exact absurd hk' hk
end Go.Proofs.YtgifmpobokaejaaGreatDoor

namespace Go.Proofs.YtgifmpobokaejaaGreatDoor
theorem rNum_stick {k : Nat} {r : Rs} (h : r.e ≠ 0) : rNum k r = (0, r) := by unfold rNum; rw [if_pos h]
theorem rU32_stick {r : Rs} (h : r.e ≠ 0) : rU32 r = (0, r) := rNum_stick h
theorem rU64_stick {r : Rs} (h : r.e ≠ 0) : rU64 r = (0, r) := by unfold rU64; rw [rNum_stick h]; simp
theorem rBool_stick {r : Rs} (h : r.e ≠ 0) : rBool r = (false, r) := by unfold rBool; rw [rU32_stick h]; simp
theorem rOpt_stick {r : Rs} (h : r.e ≠ 0) : rOpt r = ((false, 0), r) := by unfold rOpt; rw [rBool_stick h]; simp
theorem rOpaque_stick {n : Int} {r : Rs} (h : r.e ≠ 0) : rOpaque n r = ([], r) := by unfold rOpaque; rw [rU32_stick h, if_pos h]
theorem rOne_stick {b : Bool} {r : Rs} (h : r.e ≠ 0) : (rOne b r).2 = r := by
  cases b
  · show (rU32 r).2 = r
    rw [rU32_stick h]
  · show (rU64 r).2 = r
    rw [rU64_stick h]
theorem rMany_stick (l : List Bool) {r : Rs} (h : r.e ≠ 0) : (rMany l r).2 = r := by
  induction l with
  | nil => rfl
  | cons b l ih => show (rMany l (rOne b r).2).2 = r; rw [rOne_stick h]; exact ih
theorem rU64_lt (r : Rs) : ((rU64 r).1 : Int) ≤ 9223372036854775807 := by
  unfold rU64
  split
  · exact Int.le_of_lt_add_one (by decide)
  · omega
theorem rOpt_lt (r : Rs) : ((rOpt r).1.2 : Int) ≤ 9223372036854775807 := by
  unfold rOpt
  split
  · split
    · show ((0 : Nat) : Int) ≤ _
      omega
    · exact rU64_lt _
  · show ((0 : Nat) : Int) ≤ _
    omega
theorem rOpt_not {r : Rs} : (rOpt r).1.1 = true ∨ (rOpt r).1.2 = 0 := by
  unfold rOpt
  split
  · split
    · exact .inr rfl
    · exact .inl rfl
  · exact .inr rfl
theorem rDone_zero {r : Rs} (h : rDone r = 0) : r.e = 0 ∧ r.s = [] := by
  unfold rDone at h
  by_cases he : r.e ≠ 0
  · rw [if_pos he] at h; exact absurd h he
  · rw [if_neg he] at h
    refine ⟨by simpa using he, ?_⟩
    apply List.eq_nil_of_length_eq_zero
    apply Classical.byContradiction
    intro hc
    rw [if_pos (by omega)] at h; cases h
theorem rDone_rest {s : List UInt8} (h : s ≠ []) : rDone ⟨s, 0⟩ = 12 := by
  simp only [rDone, ne_eq, not_true_eq_false, if_false]
  rw [if_pos (List.length_pos_iff.2 h)]
theorem rDone_left {r : Rs} : rDone r = 0 ↔ r.e = 0 ∧ ¬ 0 < rLeft r := by
  unfold rDone rLeft
  by_cases he : r.e ≠ 0
  · rw [if_pos he, if_pos he]; simp [he]
  · rw [if_neg he, if_neg he]
    have he' : r.e = 0 := by simpa using he
    by_cases h : 0 < r.s.length
    · rw [if_pos h]; exact ⟨fun h2 => absurd h2 (by decide), fun h2 => absurd h h2.2⟩
    · rw [if_neg h]; exact ⟨fun _ => ⟨he', h⟩, fun _ => rfl⟩
def wid (b : Bool) : Nat := if b then 8 else 4
theorem wid_t : wid true = 8 := if_pos rfl
theorem wid_f : wid false = 4 := if_neg (by simp)
def bnd (b : Bool) : Nat := if b then 9223372036854775808 else 4294967296
theorem bnd_t : bnd true = 9223372036854775808 := if_pos rfl
theorem bnd_f : bnd false = 4294967296 := if_neg (by simp)
theorem rOne_t (r : Rs) : rOne true r = rU64 r := if_pos rfl
theorem rOne_f (r : Rs) : rOne false r = rU32 r := if_neg (by simp)
theorem rOne_back (b : Bool) (n : Nat) (rest : List UInt8) (h : n < bnd b) : rOne b ⟨num n (wid b) ++ rest, 0⟩ = (n, ⟨rest, 0⟩) := by
  cases b
  · rw [wid_f, rOne_f]; rw [bnd_f] at h; exact rU32_back n rest h
  · rw [wid_t, rOne_t]; rw [bnd_t] at h; exact rU64_back n rest h
theorem rOne_same (b : Bool) {r : Rs} (h0 : r.e = 0) (h : (rOne b r).2.e = 0) : r.s = num (rOne b r).1 (wid b) ++ (rOne b r).2.s := by
  cases b
  · rw [rOne_f] at h; rw [wid_f, rOne_f]; exact (rU32_same h0 h).1
  · rw [rOne_t] at h; rw [wid_t, rOne_t]; exact (rU64_same h0 h).1
/-- numbers, one behind the other -/
def manyB : List Bool → List Nat → List UInt8
  | b :: bs, n :: ns => num n (wid b) ++ manyB bs ns
  | _, _ => []
def manyFit : List Bool → List Nat → Prop
  | b :: bs, n :: ns => n < bnd b ∧ manyFit bs ns
  | [], [] => True
  | _, _ => False
theorem manyB_cons (b : Bool) (bs : List Bool) (n : Nat) (ns : List Nat) : manyB (b :: bs) (n :: ns) = num n (wid b) ++ manyB bs ns := rfl
theorem rMany_cons (b : Bool) (bs : List Bool) (r : Rs) : rMany (b :: bs) r = ((rOne b r).1 :: (rMany bs (rOne b r).2).1, (rMany bs (rOne b r).2).2) := rfl
theorem rMany_back (ws : List Bool) (ns : List Nat) (rest : List UInt8) (h : manyFit ws ns) : rMany ws ⟨manyB ws ns ++ rest, 0⟩ = (ns, ⟨rest, 0⟩) := by
  induction ws generalizing ns with
  | nil => cases ns with
    | nil => rfl
    | cons n ns => exact absurd h (by simp [manyFit])
  | cons b bs ih => cases ns with
    | nil => exact absurd h (by simp [manyFit])
    | cons n ns =>
      obtain ⟨h1, h2⟩ := h
      rw [rMany_cons, manyB_cons, List.append_assoc, rOne_back b n _ h1]
      simp only
      rw [ih ns h2]
theorem rMany_same (ws : List Bool) {r : Rs} (h0 : r.e = 0) (h : (rMany ws r).2.e = 0) : r.s = manyB ws (rMany ws r).1 ++ (rMany ws r).2.s := by
  induction ws generalizing r with
  | nil => rfl
  | cons b bs ih =>
    rw [rMany_cons] at h ⊢
    have he : (rOne b r).2.e = 0 := by
      apply Classical.byContradiction
      intro hc
      simp only [rMany_stick bs hc] at h
      exact hc h
    have e1 := ih he h
    have e2 := rOne_same b h0 he
    rw [manyB_cons, List.append_assoc, ← e1]
    exact e2
end Go.Proofs.YtgifmpobokaejaaGreatDoor


/-
  Layer 5, walks of the document's own: the bytes of attributes, of what is told of a node, of what was and is; and that what is read, laid once more, is the bytes. Conditions: what is laid may be.
-/
namespace Go.Proofs.YtgifmpobokaejaaGreatDoor
open Go.RowKit
attribute [local go_sem ↓] Go.wp_at_zero Go.wp_at_succ
attribute [local go_sem] rowAt_ptr rowOf_drew rowOf_drewN rowOf_alloc_past rowOf_new
attribute [local go_sem ↓] ldAttrR ldOpt ldPost

attribute [local go_sem] Attr.at0 Attr.lat0 Attr.at1 Attr.lat1 Attr.at2 Attr.lat2 Attr.at3 Attr.lat3 Attr.at4 Attr.lat4 Attr.at5 Attr.lat5 Attr.at6 Attr.lat6 Attr.at7 Attr.lat7 Attr.at8 Attr.lat8 Attr.at9 Attr.lat9 Attr.sub0_10 Attr.lsub0_10 Attr.len Post.at0 Post.lat0 Post.at1 Post.lat1 Post.at2 Post.lat2 Post.at3 Post.lat3 Post.at4 Post.lat4 Post.at5 Post.lat5 Post.at6 Post.lat6 Post.at7 Post.lat7 Post.at8 Post.lat8 Post.at9 Post.lat9 Post.at10 Post.lat10 Post.sub0_11 Post.lsub0_11 Post.sub1_10 Post.lsub1_10 Post.len Wcc.at0 Wcc.lat0 Wcc.at1 Wcc.lat1 Wcc.at2 Wcc.lat2 Wcc.at3 Wcc.lat3 Wcc.at4 Wcc.lat4 Wcc.at5 Wcc.lat5 Wcc.at6 Wcc.lat6 Wcc.at7 Wcc.lat7 Wcc.at8 Wcc.lat8 Wcc.at9 Wcc.lat9 Wcc.at10 Wcc.lat10 Wcc.at11 Wcc.lat11 Wcc.at12 Wcc.lat12 Wcc.sub0_13 Wcc.lsub0_13 Wcc.sub0_2 Wcc.lsub0_2 Wcc.sub2_11 Wcc.lsub2_11 Wcc.sub3_10 Wcc.lsub3_10 Wcc.len Opt.at0 Opt.lat0 Opt.at1 Opt.lat1 Opt.sub0_2 Opt.lsub0_2 Opt.len

section
attribute [local go_sem ↓] add_bs

attribute [local go_sem] num_len List.length_append

set_option maxRecDepth 20000 in
set_option maxHeartbeats 3200000 in
theorem attrBytes8_nat (t m k u g s i n c z : Nat) (w : World) (h4 : ∀ x ∈ [t, m, k, u, g, i], x < 4294967296) (h8 : ∀ x ∈ [s, n, c, z], (x : Int) ≤ 9223372036854775807) :
    Calls Tryz.prog 92 #[.agg (Attr.mk t m k u g s i n c z).vals.toArray] w fun e w' => e = .returned (.string (bs (Attr.mk t m k u g s i n c z).bytes)) ∧ Below w.heap.size w w' := by
  have HF := Lib.hid (show (Attr.mk t m k u g s i n c z).bytes = num t 4 ++ num m 4 ++ num k 4 ++ num u 4 ++ num g 4 ++ num s 8 ++ num i 4 ++ num n 8 ++ num c 8 ++ num z 8 by simp only [Attr.bytes, Int.toNat_natCast])
  simp only [List.mem_cons, List.not_mem_nil, or_false, forall_eq_or_imp, forall_eq] at h4 h8
  obtain ⟨b1, b2, b3, b4, b5, b6⟩ := h4
  obtain ⟨c1, c2, c3, c4⟩ := h8
  have d1 : (t : Int) ≤ 9223372036854775807 := by omega
  have d2 : (m : Int) ≤ 9223372036854775807 := by omega
  have d3 : (k : Int) ≤ 9223372036854775807 := by omega
  have d4 : (u : Int) ≤ 9223372036854775807 := by omega
  have d5 : (g : Int) ≤ 9223372036854775807 := by omega
  have d6 : (i : Int) ≤ 9223372036854775807 := by omega
  clear b1 b2 b3 b4 b5 b6
  have hb := Blk.new w 40 (Attr.mk t m k u g s i n c z).vals
  have hB0 : Below w.heap.size w (w.alloc (.cells (Attr.mk t m k u g s i n c z).vals.toArray 40)) := (Below.refl _ _).alloc (Nat.le_refl _) _
  have hcx := hb.cell
  have hlt := hb.lt
  clear hb
  go_enter Tryz.func92, Tryz.ntmps92
  go_wp2_with fail
  generalize w.alloc (.cells (Attr.mk t m k u g s i n c z).vals.toArray 40) = w1 at *
  go_region_held3 (fun W => Stb w1 W) (first | exact Stb.start | assumption | (exact Stb.alloc (by assumption) _) | (exact Stb.call (by assumption) (by assumption))) (first
    | (go_at_call_of 52 (t); refine (refNum_any t 4 _ (by assumption) (by decide)).mono ?_; rintro e w2 ⟨rfl, hb⟩)
    | (go_at_call_of 52 (m); refine (refNum_any m 4 _ (by assumption) (by decide)).mono ?_; rintro e w2 ⟨rfl, hb⟩)
    | (go_at_call_of 52 (k); refine (refNum_any k 4 _ (by assumption) (by decide)).mono ?_; rintro e w2 ⟨rfl, hb⟩)
    | (go_at_call_of 52 (u); refine (refNum_any u 4 _ (by assumption) (by decide)).mono ?_; rintro e w2 ⟨rfl, hb⟩)
    | (go_at_call_of 52 (g); refine (refNum_any g 4 _ (by assumption) (by decide)).mono ?_; rintro e w2 ⟨rfl, hb⟩)
    | (go_at_call_of 52 (s); refine (refNum_any s 8 _ (by assumption) (by decide)).mono ?_; rintro e w2 ⟨rfl, hb⟩)
    | (go_at_call_of 52 (i); refine (refNum_any i 4 _ (by assumption) (by decide)).mono ?_; rintro e w2 ⟨rfl, hb⟩)
    | (go_at_call_of 52 (n); refine (refNum_any n 8 _ (by assumption) (by decide)).mono ?_; rintro e w2 ⟨rfl, hb⟩)
    | (go_at_call_of 52 (c); refine (refNum_any c 8 _ (by assumption) (by decide)).mono ?_; rintro e w2 ⟨rfl, hb⟩)
    | (go_at_call_of 52 (z); refine (refNum_any z 8 _ (by assumption) (by decide)).mono ?_; rintro e w2 ⟨rfl, hb⟩)
    | fail)
  have hs5 : Stb w1 w2 := by assumption
  have HB := Lib.hid (below_then hB0 hs5.below)
  clear hs5
  go_wp2
  go_ret
  exact ⟨ret_string (by rw [HF.out]; simp only [List.append_assoc]), HB.out⟩
end
theorem attrBytes8_any (x : Attr) (w : World) (hok : x.ok = true) (hg : x.good) : Calls Tryz.prog 92 #[.agg x.vals.toArray] w fun e w' => e = .returned (.string (bs x.bytes)) ∧ Below w.heap.size w w' := by
  obtain ⟨t, m, k, u, g, s, i, n, c, z, rfl, h1, h2⟩ := Attr.nats hok hg
  exact attrBytes8_nat t m k u g s i n c z w h1 h2

set_option maxHeartbeats 800000 in
theorem postBytes8_any (p : Post) (w : World) (hok : p.ok = true) (hg : p.good) : Calls Tryz.prog 54 #[.agg p.vals.toArray] w fun e w' => e = .returned (.string (bs p.bytes)) ∧ Below w.heap.size w w' := by
  have hb0 := Blk.new w 42 p.vals
  have hB0 : Below w.heap.size w (w.alloc (.cells p.vals.toArray 42)) := (Below.refl _ _).alloc (Nat.le_refl _) _
  have hca := hb0.cell
  have HO := Lib.hid hok
  clear hok
  go_enter Tryz.func54, Tryz.ntmps54
  cases hi : p.is
  · have HF := Lib.hid (show truth false = p.bytes by simp [Post.bytes, hi])
    go_wp2_with fail
    refine (refTruth_any _ _).mono ?_
    rintro e w1 ⟨rfl, hb1⟩
    go_wp2
    go_ret
    exact ⟨ret_string HF.out, below_then hB0 hb1⟩
  · have HF := Lib.hid (show truth true ++ p.attr.bytes = p.bytes by simp [Post.bytes, hi])
    have hao : p.attr.ok = true := by have := HO.out; simpa [Post.ok, hi] using this
    go_wp2_with fail
    generalize hw : w.alloc (.cells p.vals.toArray 42) = w1 at *
    have r0 : rowOf w1 w.heap.size 1 10 = some p.attr.vals.toArray := hb0.row 1 10 (by simp [Post.len])
    have hl1 : (truth true).length = 4 := by simp [truth, num_len]
    have hl2 := p.attr.bytes_len
    have hlt := hb0.lt
    go_region_held3 (fun W => Stb w1 W) (first | exact Stb.start | assumption | (exact Stb.alloc (by assumption) _) | (exact Stb.call (by assumption) (by assumption))) (first
      | (go_at_call 56; refine (refTruth_any _ _).mono ?_; rintro e w2 ⟨rfl, hb⟩)
      | (go_at_call 92; refine (attrBytes8_any _ _ (by assumption) (by assumption)).mono ?_; rintro e w2 ⟨rfl, hb⟩)
      | fail)
    have hs5 : Stb w1 w2 := by assumption
    have HB := Lib.hid (below_then hB0 hs5.below)
    clear hs5
    go_wp2
    go_ret
    exact ⟨ret_string (by rw [HF.out]), HB.out⟩

set_option maxHeartbeats 800000 in
theorem wccBytes8_any (c : Wcc) (w : World) (hok : c.ok = true) (hg : c.good) : Calls Tryz.prog 55 #[.agg c.vals.toArray] w fun e w' => e = .returned (.string (bs c.bytes)) ∧ Below w.heap.size w w' := by
  have hb0 := Blk.new w 44 c.vals
  have hB0 : Below w.heap.size w (w.alloc (.cells c.vals.toArray 44)) := (Below.refl _ _).alloc (Nat.le_refl _) _
  have ho1 : c.before.ok 9223372036854775807 = true := by unfold Wcc.ok at hok; simp at hok; exact hok.1
  have ho2 : c.after.ok = true := by unfold Wcc.ok at hok; simp at hok; exact hok.2
  have hp := Opt.ok_pos ho1
  have hm := (Go.bounds_i64 hg.1).2
  have HF := Lib.hid (show c.before.bytes ++ c.after.bytes = c.bytes from rfl)
  clear hok
  go_enter Tryz.func55, Tryz.ntmps55
  go_wp2_with fail
  generalize hw : w.alloc (.cells c.vals.toArray 44) = w1 at *
  have r0 : rowOf w1 w.heap.size 0 2 = some c.before.vals.toArray := hb0.row 0 2 (by simp [Wcc.len])
  have r1 : rowOf w1 w.heap.size 2 11 = some c.after.vals.toArray := hb0.row 2 11 (by simp [Wcc.len])
  have hl1 := c.before.bytes_len
  have hl2 := c.after.bytes_len
  have hl3 : ¬ 9223372036854775807 < c.before.bytes.length + c.after.bytes.length := by omega
  have hlt := hb0.lt
  go_region_held3 (fun W => Stb w1 W) (first | exact Stb.start | assumption | (exact Stb.alloc (by assumption) _) | (exact Stb.call (by assumption) (by assumption))) (first
    | (go_at_call 93; refine (refOptO_any _ _ (by assumption) (by assumption)).mono ?_; rintro e w2 ⟨rfl, hb⟩)
    | (go_at_call 54; refine (postBytes8_any _ _ (by assumption) (by exact hg.2)).mono ?_; rintro e w2 ⟨rfl, hb⟩)
    | fail)
  have hs5 : Stb w1 w2 := by assumption
  have HB := Lib.hid (below_then hB0 hs5.below)
  clear hs5
  go_wp2
  go_ret
  exact ⟨ret_string (by rw [HF.out]), HB.out⟩
end Go.Proofs.YtgifmpobokaejaaGreatDoor


/-
  Layer 7, walks: the call of bytes. Condition: a machine text.
-/
namespace Go.Proofs.YtgifmpobokaejaaGreatDoor
open Go.RowKit
attribute [local go_sem ↓] Go.wp_at_zero Go.wp_at_succ
attribute [local go_sem] rowAt_ptr rowOf_drew rowOf_drewN rowOf_alloc_past rowOf_new
attribute [local go_sem ↓] ldSet ldOpt ldCall

attribute [local go_sem] Call.at0 Call.lat0 Call.at1 Call.lat1 Call.at2 Call.lat2 Call.at3 Call.lat3 Call.at4 Call.lat4 Call.at5 Call.lat5 Call.at6 Call.lat6 Call.at7 Call.lat7 Call.at8 Call.lat8 Call.at9 Call.lat9 Call.at10 Call.lat10 Call.at11 Call.lat11 Call.at12 Call.lat12 Call.at13 Call.lat13 Call.at14 Call.lat14 Call.at15 Call.lat15 Call.at16 Call.lat16 Call.at17 Call.lat17 Call.at18 Call.lat18 Call.at19 Call.lat19 Call.at20 Call.lat20 Call.at21 Call.lat21 Call.at22 Call.lat22 Call.at23 Call.lat23 Call.sub0_24 Call.lsub0_24 Call.sub9_10 Call.lsub9_10 Call.sub9_2 Call.lsub9_2 Call.sub11_2 Call.lsub11_2 Call.sub13_2 Call.lsub13_2 Call.sub15_2 Call.lsub15_2 Call.sub17_2 Call.lsub17_2 Call.sub19_2 Call.lsub19_2 Call.len Sett.at0 Sett.lat0 Sett.at1 Sett.lat1 Sett.at2 Sett.lat2 Sett.at3 Sett.lat3 Sett.at4 Sett.lat4 Sett.at5 Sett.lat5 Sett.at6 Sett.lat6 Sett.at7 Sett.lat7 Sett.at8 Sett.lat8 Sett.at9 Sett.lat9 Sett.sub0_10 Sett.lsub0_10 Sett.sub0_2 Sett.lsub0_2 Sett.sub2_2 Sett.lsub2_2 Sett.sub4_2 Sett.lsub4_2 Sett.sub6_2 Sett.lsub6_2 Sett.sub8_2 Sett.lsub8_2 Sett.len Opt.at0 Opt.lat0 Opt.at1 Opt.lat1 Opt.sub0_2 Opt.lsub0_2 Opt.len

/-- the first k letters' fields are taken -/
def cSt (l : List UInt8) (z : Call) (r : Rs) (k : Nat) : Call × Rs := (l.take k).foldl (fun x c => cTk c.toNat x.1 x.2) (z, r)
theorem cSt_succ (l : List UInt8) (z : Call) (r : Rs) (k : Nat) (hk : k < l.length) : cSt l z r (k + 1) = cTk l[k].toNat (cSt l z r k).1 (cSt l z r k).2 := by
  unfold cSt
  rw [List.take_add_one, List.getElem?_eq_getElem hk, List.foldl_append]
  rfl
theorem cOpaque_len {n : Int} {r : Rs} (h : r.s.length ≤ 9223372036854775807) : (rOpaque n r).2.s.length ≤ r.s.length := by
  unfold rOpaque; split
  · exact rU32_len h
  · split
    · simp [Rs.fail]
    · exact Nat.le_trans (rPadded_len (Nat.le_trans (rU32_len h) h)) (rU32_len h)
theorem ite_of {α : Type} (P : α → Prop) {c : Prop} [Decidable c] {a b : α} (ha : P a) (hb : P b) : P (if c then a else b) := by split <;> assumption
theorem cTk_le (c : Nat) (z : Call) {r : Rs} {M : Nat} (ho : ∀ n, (rOpaque n r).2.s.length ≤ M) (h8 : (rU64 r).2.s.length ≤ M) (h4 : (rU32 r).2.s.length ≤ M) (hs : (rSett r).2.s.length ≤ M) (hg : (rOpt r).2.s.length ≤ M) (h : r.s.length ≤ M) : (cTk c z r).2.s.length ≤ M := by
  unfold cTk
  exact (ite_of (fun x : Call × Rs => x.2.s.length ≤ M) (ho _) (ite_of (fun x : Call × Rs => x.2.s.length ≤ M) (ho _) (ite_of (fun x : Call × Rs => x.2.s.length ≤ M) (ho _) (ite_of (fun x : Call × Rs => x.2.s.length ≤ M) (ho _) (ite_of (fun x : Call × Rs => x.2.s.length ≤ M) (ho _) (ite_of (fun x : Call × Rs => x.2.s.length ≤ M) (ho _) (ite_of (fun x : Call × Rs => x.2.s.length ≤ M) h8 (ite_of (fun x : Call × Rs => x.2.s.length ≤ M) h8 (ite_of (fun x : Call × Rs => x.2.s.length ≤ M) h8 (ite_of (fun x : Call × Rs => x.2.s.length ≤ M) h4 (ite_of (fun x : Call × Rs => x.2.s.length ≤ M) h4 (ite_of (fun x : Call × Rs => x.2.s.length ≤ M) hs (ite_of (fun x : Call × Rs => x.2.s.length ≤ M) hg h)))))))))))))
theorem cTk_len (c : Nat) (z : Call) {r : Rs} (h : r.s.length ≤ 9223372036854775807) : (cTk c z r).2.s.length ≤ 9223372036854775807 :=
  cTk_le c z (fun n => Nat.le_trans (cOpaque_len (n := n) h) h) (Nat.le_trans (rU64_len h) h) (Nat.le_trans (rU32_len h) h) (settK_len r 5 h) (Nat.le_trans (rOpt_len h) h) h
theorem cSt_len (l : List UInt8) (z : Call) {r : Rs} (h : r.s.length ≤ 9223372036854775807) (k : Nat) (hk : k ≤ l.length) : (cSt l z r k).2.s.length ≤ 9223372036854775807 := by
  induction k with
  | zero => exact h
  | succ k ih => rw [cSt_succ _ _ _ _ (by omega)]; exact cTk_len _ _ (ih (by omega))
/-- may the field of the letter be -/
def cStOk (l : List UInt8) (z : Call) (r : Rs) (k : Nat) : Bool := cTkOk (l.getD k 0).toNat (cSt l z r k).2
/-- the call of bytes, or the error -/
def cGet (p : Int) (s : List UInt8) : Call × Int :=
  if cThere p = false then (callZ, 22)
  else if (∀ k, k < (cFields p).length → cStOk (cFields p) { callZ with proc := p } ⟨s, 0⟩ k = true) ∧ rDone (cSt (cFields p) { callZ with proc := p } ⟨s, 0⟩ (cFields p).length).2 = 0
  then ((cSt (cFields p) { callZ with proc := p } ⟨s, 0⟩ (cFields p).length).1, 0) else (callZ, 14)
end Go.Proofs.YtgifmpobokaejaaGreatDoor


/-
  Layer 7, walks: the field of a letter is laid (written by wip/tools/genlaid7.py). Conditions: a writer and a call at blocks of their own; the field may be.
-/
namespace Go.Proofs.YtgifmpobokaejaaGreatDoor
open Go.RowKit
attribute [local go_sem ↓] Go.wp_at_zero Go.wp_at_succ
attribute [local go_sem] rowAt_ptr rowOf_drew rowOf_drewN rowOf_alloc_past rowOf_new
attribute [local go_sem ↓] ldSet ldOpt ldCall

attribute [local go_sem] Call.at0 Call.lat0 Call.at1 Call.lat1 Call.at2 Call.lat2 Call.at3 Call.lat3 Call.at4 Call.lat4 Call.at5 Call.lat5 Call.at6 Call.lat6 Call.at7 Call.lat7 Call.at8 Call.lat8 Call.at9 Call.lat9 Call.at10 Call.lat10 Call.at11 Call.lat11 Call.at12 Call.lat12 Call.at13 Call.lat13 Call.at14 Call.lat14 Call.at15 Call.lat15 Call.at16 Call.lat16 Call.at17 Call.lat17 Call.at18 Call.lat18 Call.at19 Call.lat19 Call.at20 Call.lat20 Call.at21 Call.lat21 Call.at22 Call.lat22 Call.at23 Call.lat23 Call.sub0_24 Call.lsub0_24 Call.sub9_10 Call.lsub9_10 Call.sub9_2 Call.lsub9_2 Call.sub11_2 Call.lsub11_2 Call.sub13_2 Call.lsub13_2 Call.sub15_2 Call.lsub15_2 Call.sub17_2 Call.lsub17_2 Call.sub19_2 Call.lsub19_2 Call.len Sett.at0 Sett.lat0 Sett.at1 Sett.lat1 Sett.at2 Sett.lat2 Sett.at3 Sett.lat3 Sett.at4 Sett.lat4 Sett.at5 Sett.lat5 Sett.at6 Sett.lat6 Sett.at7 Sett.lat7 Sett.at8 Sett.lat8 Sett.at9 Sett.lat9 Sett.sub0_10 Sett.lsub0_10 Sett.sub0_2 Sett.lsub0_2 Sett.sub2_2 Sett.lsub2_2 Sett.sub4_2 Sett.lsub4_2 Sett.sub6_2 Sett.lsub6_2 Sett.sub8_2 Sett.lsub8_2 Sett.len Opt.at0 Opt.lat0 Opt.at1 Opt.lat1 Opt.sub0_2 Opt.lsub0_2 Opt.len

/-- the bytes of a letter's field -/
def cBytes (x : Call) (c : Nat) : List UInt8 :=
  if c = 102 then opq x.fh else
  if c = 70 then opq x.fh2 else
  if c = 110 then opq x.name else
  if c = 78 then opq x.name2 else
  if c = 116 then opq x.text else
  if c = 100 then opq x.data else
  if c = 111 then num x.offset.toNat 8 else
  if c = 107 then num x.cookie.toNat 8 else
  if c = 118 then num x.verf.toNat 8 else
  if c = 99 then num x.count.toNat 4 else
  if c = 104 then num x.how.toNat 4 else
  if c = 115 then x.set.bytes else optB x.guard.is x.guard.n
end Go.Proofs.YtgifmpobokaejaaGreatDoor


/-
  Layer 7, walks: what is to be set, and the guard, are laid; every letter's field. Conditions: a writer and a call at blocks of their own; the field may be.
-/
namespace Go.Proofs.YtgifmpobokaejaaGreatDoor
open Go.RowKit
attribute [local go_sem ↓] Go.wp_at_zero Go.wp_at_succ
attribute [local go_sem] rowAt_ptr rowOf_drew rowOf_drewN rowOf_alloc_past rowOf_new
attribute [local go_sem ↓] ldSet ldOpt ldCall

attribute [local go_sem] Call.at0 Call.lat0 Call.at1 Call.lat1 Call.at2 Call.lat2 Call.at3 Call.lat3 Call.at4 Call.lat4 Call.at5 Call.lat5 Call.at6 Call.lat6 Call.at7 Call.lat7 Call.at8 Call.lat8 Call.at9 Call.lat9 Call.at10 Call.lat10 Call.at11 Call.lat11 Call.at12 Call.lat12 Call.at13 Call.lat13 Call.at14 Call.lat14 Call.at15 Call.lat15 Call.at16 Call.lat16 Call.at17 Call.lat17 Call.at18 Call.lat18 Call.at19 Call.lat19 Call.at20 Call.lat20 Call.at21 Call.lat21 Call.at22 Call.lat22 Call.at23 Call.lat23 Call.sub0_24 Call.lsub0_24 Call.sub9_10 Call.lsub9_10 Call.sub9_2 Call.lsub9_2 Call.sub11_2 Call.lsub11_2 Call.sub13_2 Call.lsub13_2 Call.sub15_2 Call.lsub15_2 Call.sub17_2 Call.lsub17_2 Call.sub19_2 Call.lsub19_2 Call.len Sett.at0 Sett.lat0 Sett.at1 Sett.lat1 Sett.at2 Sett.lat2 Sett.at3 Sett.lat3 Sett.at4 Sett.lat4 Sett.at5 Sett.lat5 Sett.at6 Sett.lat6 Sett.at7 Sett.lat7 Sett.at8 Sett.lat8 Sett.at9 Sett.lat9 Sett.sub0_10 Sett.lsub0_10 Sett.sub0_2 Sett.lsub0_2 Sett.sub2_2 Sett.lsub2_2 Sett.sub4_2 Sett.lsub4_2 Sett.sub6_2 Sett.lsub6_2 Sett.sub8_2 Sett.lsub8_2 Sett.len Opt.at0 Opt.lat0 Opt.at1 Opt.lat1 Opt.sub0_2 Opt.lsub0_2 Opt.len

end Go.Proofs.YtgifmpobokaejaaGreatDoor


/-
  Layer 7, walks: the closure that lays a letter's field. Conditions as told.
-/
namespace Go.Proofs.YtgifmpobokaejaaGreatDoor
open Go.RowKit
attribute [local go_sem ↓] Go.wp_at_zero Go.wp_at_succ
attribute [local go_sem] rowAt_ptr rowOf_drew rowOf_drewN rowOf_alloc_past rowOf_new
attribute [local go_sem ↓] ldSet ldOpt ldCall

attribute [local go_sem] Call.at0 Call.lat0 Call.at1 Call.lat1 Call.at2 Call.lat2 Call.at3 Call.lat3 Call.at4 Call.lat4 Call.at5 Call.lat5 Call.at6 Call.lat6 Call.at7 Call.lat7 Call.at8 Call.lat8 Call.at9 Call.lat9 Call.at10 Call.lat10 Call.at11 Call.lat11 Call.at12 Call.lat12 Call.at13 Call.lat13 Call.at14 Call.lat14 Call.at15 Call.lat15 Call.at16 Call.lat16 Call.at17 Call.lat17 Call.at18 Call.lat18 Call.at19 Call.lat19 Call.at20 Call.lat20 Call.at21 Call.lat21 Call.at22 Call.lat22 Call.at23 Call.lat23 Call.sub0_24 Call.lsub0_24 Call.sub9_10 Call.lsub9_10 Call.sub9_2 Call.lsub9_2 Call.sub11_2 Call.lsub11_2 Call.sub13_2 Call.lsub13_2 Call.sub15_2 Call.lsub15_2 Call.sub17_2 Call.lsub17_2 Call.sub19_2 Call.lsub19_2 Call.len Sett.at0 Sett.lat0 Sett.at1 Sett.lat1 Sett.at2 Sett.lat2 Sett.at3 Sett.lat3 Sett.at4 Sett.lat4 Sett.at5 Sett.lat5 Sett.at6 Sett.lat6 Sett.at7 Sett.lat7 Sett.at8 Sett.lat8 Sett.at9 Sett.lat9 Sett.sub0_10 Sett.lsub0_10 Sett.sub0_2 Sett.lsub0_2 Sett.sub2_2 Sett.lsub2_2 Sett.sub4_2 Sett.lsub4_2 Sett.sub6_2 Sett.lsub6_2 Sett.sub8_2 Sett.lsub8_2 Sett.len Opt.at0 Opt.lat0 Opt.at1 Opt.lat1 Opt.sub0_2 Opt.lsub0_2 Opt.len

theorem row_ne_itr {w : World} {base : Nat} {e : TypeId} {size n b pos : Nat} {v : Value} {xs : List Value} {l : List UInt8} (h : w.ownsRow base e size v n xs) (hI : Itr w b l pos) : v.ownBlock ≠ some b := by
  intro hb
  rcases h.2 with ⟨rfl, _⟩ | ⟨g, cap, cur, rfl, _, hg, _⟩
  · simp [Value.ownBlock] at hb
  · simp [Value.ownBlock] at hb
    subst hb
    unfold Itr at hI
    rw [hg] at hI
    cases hI
/-- the bytes of the first k letters' fields -/
def cLaid (x : Call) (l : List UInt8) (k : Nat) : List UInt8 := (l.take k).flatMap fun c => cBytes x c.toNat
theorem cLaid_succ (x : Call) (l : List UInt8) (k : Nat) (hk : k < l.length) : cLaid x l (k + 1) = cLaid x l k ++ cBytes x l[k].toNat := by
  unfold cLaid
  rw [List.take_add_one, List.getElem?_eq_getElem hk, List.flatMap_append]
  simp
end Go.Proofs.YtgifmpobokaejaaGreatDoor


/-
  Layer 7, walks: a call's bytes. Conditions: the call's numbers are machine numbers.
-/
namespace Go.Proofs.YtgifmpobokaejaaGreatDoor
open Go.RowKit
attribute [local go_sem ↓] Go.wp_at_zero Go.wp_at_succ
attribute [local go_sem] rowAt_ptr rowOf_drew rowOf_drewN rowOf_alloc_past rowOf_new
attribute [local go_sem ↓] ldSet ldOpt ldCall

attribute [local go_sem] Call.at0 Call.lat0 Call.at1 Call.lat1 Call.at2 Call.lat2 Call.at3 Call.lat3 Call.at4 Call.lat4 Call.at5 Call.lat5 Call.at6 Call.lat6 Call.at7 Call.lat7 Call.at8 Call.lat8 Call.at9 Call.lat9 Call.at10 Call.lat10 Call.at11 Call.lat11 Call.at12 Call.lat12 Call.at13 Call.lat13 Call.at14 Call.lat14 Call.at15 Call.lat15 Call.at16 Call.lat16 Call.at17 Call.lat17 Call.at18 Call.lat18 Call.at19 Call.lat19 Call.at20 Call.lat20 Call.at21 Call.lat21 Call.at22 Call.lat22 Call.at23 Call.lat23 Call.sub0_24 Call.lsub0_24 Call.sub9_10 Call.lsub9_10 Call.sub9_2 Call.lsub9_2 Call.sub11_2 Call.lsub11_2 Call.sub13_2 Call.lsub13_2 Call.sub15_2 Call.lsub15_2 Call.sub17_2 Call.lsub17_2 Call.sub19_2 Call.lsub19_2 Call.len Sett.at0 Sett.lat0 Sett.at1 Sett.lat1 Sett.at2 Sett.lat2 Sett.at3 Sett.lat3 Sett.at4 Sett.lat4 Sett.at5 Sett.lat5 Sett.at6 Sett.lat6 Sett.at7 Sett.lat7 Sett.at8 Sett.lat8 Sett.at9 Sett.lat9 Sett.sub0_10 Sett.lsub0_10 Sett.sub0_2 Sett.lsub0_2 Sett.sub2_2 Sett.lsub2_2 Sett.sub4_2 Sett.lsub4_2 Sett.sub6_2 Sett.lsub6_2 Sett.sub8_2 Sett.lsub8_2 Sett.len Opt.at0 Opt.lat0 Opt.at1 Opt.lat1 Opt.sub0_2 Opt.lsub0_2 Opt.len

theorem cCheck_fine {x : Call} (h : cCheck x = 0) : cMayAll x (cFields x.proc) = true := by
  unfold cCheck at h
  split at h
  · cases h
  · split at h
    · next h2 => exact h2.1
    · cases h
/-- a call's bytes, or why there are none -/
def cPut (x : Call) : List UInt8 × Int := if cCheck x = 0 then (cLaid x (cFields x.proc) (cFields x.proc).length, 0) else ([], cCheck x)
theorem cFields_short (p : Int) : (cFields p).length ≤ 5 := by
  unfold cFields
  split
  · simp
  · rcases Nat.lt_or_ge p.toNat lettersC.length with h | h
    · have he : lettersC.getD p.toNat [] = lettersC[p.toNat] := by simp [List.getD, List.getElem?_eq_getElem h]
      rw [he]
      have : ∀ s ∈ lettersC, s.length ≤ 5 := by decide
      exact this _ (List.getElem_mem h)
    · simp [List.getD, List.getElem?_eq_none h]
theorem opq_len (l : List UInt8) : (opq l).length ≤ l.length + 8 := by
  have := padn_lt l.length
  simp only [opq, List.length_append, num_len, filled_len]
  omega
theorem optB_len (b : Bool) (n : Int) : (optB b n).length ≤ 12 := by
  cases b <;> simp [optB, truth, num_len]
theorem optBytes_len (o : Opt) : o.bytes.length ≤ 12 := optB_len o.is o.n
theorem cBytes_len (x : Call) (c : Nat) (hm : cMay x c = true) (hl : cLetter c) : (cBytes x c).length ≤ 600 := by
  have hs : x.set.bytes.length ≤ 60 := by
    have h1 := optBytes_len x.set.mode
    have h2 := optBytes_len x.set.uid
    have h3 := optBytes_len x.set.gid
    have h4 := optBytes_len x.set.size
    have h5 := optBytes_len x.set.time
    simp only [Sett.bytes, List.length_append]
    omega
  have ho := optB_len x.guard.is x.guard.n
  have o1 := opq_len x.fh
  have o2 := opq_len x.fh2
  have o3 := opq_len x.name
  have o4 := opq_len x.name2
  have o5 := opq_len x.text
  have o6 := opq_len x.data
  rcases hl with rfl | rfl | rfl | rfl | rfl | rfl | rfl | rfl | rfl | rfl | rfl | rfl | rfl
  all_goals
    simp [cMay] at hm
    simp [cBytes, num_len]
    try omega
theorem cLaid_len (x : Call) (l : List UInt8) (hm : cMayAll x l = true) (hl : ∀ k (hk : k < l.length), cLetter l[k].toNat) (k : Nat) (hk : k ≤ l.length) : (cLaid x l k).length ≤ 600 * k := by
  induction k with
  | zero => simp [cLaid]
  | succ k ih =>
    have h1 := ih (by omega)
    have hlt : k < l.length := by omega
    rw [cMayAll, List.all_eq_true] at hm
    have h2 := cBytes_len x l[k].toNat (hm _ (List.getElem_mem hlt)) (hl k hlt)
    rw [cLaid_succ x l k hlt, List.length_append]
    omega
end Go.Proofs.YtgifmpobokaejaaGreatDoor
