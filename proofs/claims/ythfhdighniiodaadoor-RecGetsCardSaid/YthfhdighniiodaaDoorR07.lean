/-
  Layer 1, walks: a reader takes numbers, truths and options. Conditions: a reader at a block of its own; texts are machine texts.
-/
import Derived.Test.YthfhdighniiodaaDoorR06
import Derived.Test.YthfhdighniiodaaDoorR02
import Derived.Test.YthfhdighniiodaaDoorR05
namespace Go.Proofs.YthfhdighniiodaaDoor
open Go.RowKit
attribute [local go_sem ↓] Go.wp_at_zero Go.wp_at_succ
attribute [local go_sem] rowAt_ptr rowOf_drew rowOf_drewN rowOf_alloc_past rowOf_new

theorem callNumber1 (args : Array Value) (w : World) : (callFunc 125 args).run Tryd.prog w = .ok (.enter 125 args) w := by kernel_rfl
theorem rNum_err {k : Nat} {r : Rs} (h : r.e ≠ 0) : rNum k r = (0, r) := by simp [rNum, h]
theorem rNum_short {k : Nat} {s : List UInt8} (h : s.length < k) : rNum k ⟨s, 0⟩ = (0, Rs.fail 10) := by simp [rNum, h]
theorem rNum_ok {k : Nat} {s : List UInt8} (h : k ≤ s.length) : rNum k ⟨s, 0⟩ = (beVal (s.take k), ⟨s.drop k, 0⟩) := by
  have : ¬ s.length < k := by omega
  simp [rNum, this]

set_option maxHeartbeats 1600000 in
theorem rNumber_any (g k : Nat) (r : Rs) (w : World) (hR : Rd w g r) (hk : k ≤ 8) (hl : r.s.length ≤ 9223372036854775807) :
    Calls Tryd.prog 100 #[.pointer (some ⟨g, 0, none⟩), .int .i64 k] w (Gave g (rNum k r).2 (.int .u64 (rNum k r).1) w) := by
  have hb := Blk.new w 131 [.int .u64 0]
  have hB : Below w.heap.size w (w.alloc (.cells #[.int .u64 0] 131)) := (Below.refl _ _).alloc (Nat.le_refl _) _
  have hR1 := hR.stays hB
  have hne : w.heap.size ≠ g := Nat.ne_of_gt hR.lt
  clear hR
  by_cases he : r.e = 0
  · obtain ⟨s, e⟩ := r
    simp only at he hl
    subst he
    by_cases hs : s.length < k
    · have HN := Lib.hid (rNum_short hs)
      go_enter Tryd.func100, Tryd.ntmps100
      go_wp2_with fail
      generalize w.alloc (.cells #[.int .u64 0] 131) = w0 at *
      refine (take_short g s k _ _ hR1 hs).mono ?_
      rintro e w1 ⟨rfl, hQ⟩
      have hb1 := hQ.keeps hb hne
      have hc := hb1.cell
      have HQ := Lib.hid (Reads.behind hB hQ)
      clear hQ hb hb1
      go_wp2
      go_ret
      rw [HN.out]
      exact ⟨rfl, HQ.out⟩
    · have HN := Lib.hid (rNum_ok (k := k) (s := s) (by omega))
      have hlt : (s.take k).length ≤ 8 := by simp; omega
      go_enter Tryd.func100, Tryd.ntmps100
      go_wp2_with fail
      generalize w.alloc (.cells #[.int .u64 0] 131) = w0 at *
      refine (take_ok g s k 125 #[.pointer (some ⟨w.heap.size, 0, none⟩)] _ hR1 (by omega) hl callNumber1 (fun w1 hQ => rNumber1_any w.heap.size (s.take k) w1 (hQ.keeps hb hne) hlt)).mono ?_
      rintro e w2 ⟨w1, rfl, hQ, hb2, hT2⟩
      have hc := hb2.cell
      have HQ := Lib.hid (show Reads g ⟨s.drop k, 0⟩ w w2 from ⟨hQ.1.touch hT2 (fun h => hne h.symm), ((Touch.of_below hB _).then_ hQ.2).trans hT2 (fun i hi h => by omega)⟩)
      clear hQ hb hb2 hT2
      go_wp2
      go_ret
      rw [HN.out]
      exact ⟨rfl, HQ.out⟩
  · have HN := Lib.hid (rNum_err (k := k) he)
    have HE := Lib.hid he
    clear he
    go_enter Tryd.func100, Tryd.ntmps100
    go_wp2_with fail
    generalize w.alloc (.cells #[.int .u64 0] 131) = w0 at *
    refine (take_err g r k _ _ hR1 HE.out).mono ?_
    rintro e w1 ⟨rfl, rfl⟩
    have hc := hb.cell
    have HQ := Lib.hid (Reads.behind hB (Reads.refl hR1))
    clear hb
    go_wp2
    go_ret
    rw [HN.out]
    exact ⟨rfl, HQ.out⟩

theorem rNum_lt {k : Nat} {r : Rs} (_h : r.s.length ≤ 9223372036854775807) : (rNum k r).1 < 256 ^ k ∧ (rNum k r).2.s.length ≤ r.s.length := by
  unfold rNum
  split
  · exact ⟨Nat.pow_pos (by omega), Nat.le_refl _⟩
  · split
    · exact ⟨Nat.pow_pos (by omega), by simp [Rs.fail]⟩
    · have := beVal_lt (r.s.take k)
      rw [List.length_take, Nat.min_eq_left (by omega)] at this
      exact ⟨this, by simp⟩

set_option maxHeartbeats 800000 in
theorem rU32_any (g : Nat) (r : Rs) (w : World) (hR : Rd w g r) (hl : r.s.length ≤ 9223372036854775807) :
    Calls Tryd.prog 58 #[.pointer (some ⟨g, 0, none⟩)] w (Gave g (rU32 r).2 (.int .i64 (rU32 r).1) w) := by
  have hlt : (rNum 4 r).1 < 4294967296 := (rNum_lt (k := 4) hl).1
  have hcv : IntKind.i64.wrap ((rNum 4 r).1 : Int) = (rNum 4 r).1 := IntWalk.i64_in _ (by omega)
  go_enter Tryd.func58, Tryd.ntmps58
  go_wp2_with fail
  refine (rNumber_any g 4 r _ hR (by omega) hl).mono ?_
  rintro e w1 ⟨rfl, hQ⟩
  go_wp2
  go_ret
  exact ⟨rfl, hQ⟩

set_option maxHeartbeats 800000 in
theorem rU64_any (g : Nat) (r : Rs) (w : World) (hR : Rd w g r) (hl : r.s.length ≤ 9223372036854775807) :
    Calls Tryd.prog 101 #[.pointer (some ⟨g, 0, none⟩)] w (Gave g (rU64 r).2 (.int .i64 (rU64 r).1) w) := by
  have hlt : (rNum 8 r).1 < 18446744073709551616 := (rNum_lt (k := 8) hl).1
  by_cases hb : 9223372036854775808 ≤ (rNum 8 r).1
  · have HN := Lib.hid (show rU64 r = (0, Rs.fail 3) by simp [rU64, hb])
    have h1 : (((rNum 8 r).1 : Int) / 9223372036854775808 != 0) = true := by rw [bne_iff_ne]; omega
    go_enter Tryd.func101, Tryd.ntmps101
    go_wp2_with fail
    refine (rNumber_any g 8 r _ hR (by omega) hl).mono ?_
    rintro e w1 ⟨rfl, hQ⟩
    go_wp2_with fail
    refine (rFail_any g (rNum 8 r).2 3 _ hQ.1).mono ?_
    rintro e w2 ⟨rfl, hQ2⟩
    have HQ := Lib.hid (hQ.trans hQ2)
    clear hQ hQ2
    go_wp2
    go_ret
    rw [HN.out]
    exact ⟨rfl, HQ.out⟩
  · have HN := Lib.hid (show rU64 r = rNum 8 r by simp [rU64, hb])
    have h1 : (((rNum 8 r).1 : Int) / 9223372036854775808 != 0) = false := by rw [bne_eq_false_iff_eq]; omega
    have hcv : IntKind.i64.wrap ((rNum 8 r).1 : Int) = (rNum 8 r).1 := IntWalk.i64_in _ (by omega)
    go_enter Tryd.func101, Tryd.ntmps101
    go_wp2_with fail
    refine (rNumber_any g 8 r _ hR (by omega) hl).mono ?_
    rintro e w1 ⟨rfl, hQ⟩
    go_wp2
    go_ret
    rw [HN.out]
    exact ⟨rfl, hQ⟩

theorem rU32_len {r : Rs} (h : r.s.length ≤ 9223372036854775807) : (rU32 r).2.s.length ≤ r.s.length := (rNum_lt (k := 4) h).2
theorem rU64_len {r : Rs} (h : r.s.length ≤ 9223372036854775807) : (rU64 r).2.s.length ≤ r.s.length := by
  unfold rU64
  split
  · simp [Rs.fail]
  · exact (rNum_lt (k := 8) h).2
theorem rBool_len {r : Rs} (h : r.s.length ≤ 9223372036854775807) : (rBool r).2.s.length ≤ r.s.length := by
  unfold rBool
  split
  · simp [Rs.fail]
  · exact rU32_len h
theorem rOpt_len {r : Rs} (h : r.s.length ≤ 9223372036854775807) : (rOpt r).2.s.length ≤ r.s.length := by
  have h1 := rBool_len h
  have h2 := rU64_len (r := (rBool r).2) (by omega)
  unfold rOpt
  split
  · split <;> (simp only; omega)
  · exact h1

set_option maxHeartbeats 800000 in
theorem rBool_any (g : Nat) (r : Rs) (w : World) (hR : Rd w g r) (hl : r.s.length ≤ 9223372036854775807) :
    Calls Tryd.prog 134 #[.pointer (some ⟨g, 0, none⟩)] w (Gave g (rBool r).2 (.bool (rBool r).1) w) := by
  by_cases hb : 1 < (rU32 r).1
  · have HN := Lib.hid (show rBool r = (false, Rs.fail 13) by simp [rBool, hb])
    go_enter Tryd.func134, Tryd.ntmps134
    go_wp2_with fail
    refine (rU32_any g r _ hR hl).mono ?_
    rintro e w1 ⟨rfl, hQ⟩
    go_wp2_with fail
    refine (rFail_any g (rU32 r).2 13 _ hQ.1).mono ?_
    rintro e w2 ⟨rfl, hQ2⟩
    have HQ := Lib.hid (hQ.trans hQ2)
    clear hQ hQ2
    go_wp2
    go_ret
    rw [HN.out]
    exact ⟨rfl, HQ.out⟩
  · have HN := Lib.hid (show rBool r = ((rU32 r).1 == 1, (rU32 r).2) by simp [rBool, hb])
    go_enter Tryd.func134, Tryd.ntmps134
    go_wp2_with fail
    refine (rU32_any g r _ hR hl).mono ?_
    rintro e w1 ⟨rfl, hQ⟩
    go_wp2
    go_ret
    rw [HN.out]
    refine ⟨ret_bool ?_, hQ⟩
    go_light
    grind

theorem infoOptR : (Tryd.prog.info? 53).map (fun i => (i.zero, i.size)) = some (some (.agg #[.bool false, .int .i64 0]), 2) := by kernel_rfl
/-- an option that was read -/
def optV (o : Bool × Nat) : List Value := [.bool o.1, .int .i64 o.2]

theorem optV_one (o : Bool × Nat) : ∀ v ∈ optV o, v.oneCell' = true := by
  intro v hv
  simp only [optV, List.mem_cons, List.not_mem_nil, or_false] at hv
  rcases hv with rfl | rfl <;> rfl

set_option maxHeartbeats 1600000 in
theorem rOpt_any (g : Nat) (r : Rs) (w : World) (hR : Rd w g r) (hl : r.s.length ≤ 9223372036854775807) :
    Calls Tryd.prog 116 #[.pointer (some ⟨g, 0, none⟩)] w (Gave g (rOpt r).2 (.agg (optV (rOpt r).1).toArray) w) := by
  have hb := Blk.new w 53 [.bool false, .int .i64 0]
  have hB : Below w.heap.size w (w.alloc (.cells #[.bool false, .int .i64 0] 53)) := (Below.refl _ _).alloc (Nat.le_refl _) _
  have hR1 := hR.stays hB
  have hne : w.heap.size ≠ g := Nat.ne_of_gt hR.lt
  have hl1 := rBool_len hl
  clear hR
  cases hq : (rBool r).1
  · have HN := Lib.hid (show rOpt r = ((false, 0), (rBool r).2) by simp [rOpt, hq])
    go_enter Tryd.func116, Tryd.ntmps116
    go_wp2_with fail
    generalize w.alloc (.cells #[.bool false, .int .i64 0] 53) = w0 at *
    refine (rBool_any g r _ hR1 hl).mono ?_
    rintro e w1 ⟨rfl, hQ⟩
    have hb1 := hQ.keeps hb hne
    have HQ := Lib.hid (Reads.lay (cs := optV (false, 0)) (Reads.behind hB hQ) hb1 rfl hne (Nat.le_refl _))
    clear hQ hb
    go_wp2_with (first | (refine wpList_store_whole (by rfl) 53 _ _ (by rfl) w.heap.size (optV (false, 0)) _ hb1 (by rfl) (by rfl) (by rfl) (by kernel_rfl) (by decide) ?_) | fail)
    refine ret_cells w.heap.size 0 (optV (false, 0)) Tryd.results116 Tryd.underlying53 rfl (by kernel_rfl) rfl HQ.out.2.range rfl ?_
    rw [HN.out]
    exact ⟨rfl, HQ.out.1⟩
  · have hl2 := rU64_len (r := (rBool r).2) (by omega)
    by_cases he : (rU64 (rBool r).2).2.e = 0
    · have HN := Lib.hid (show rOpt r = ((true, (rU64 (rBool r).2).1), (rU64 (rBool r).2).2) by simp [rOpt, hq, he])
      go_enter Tryd.func116, Tryd.ntmps116
      go_wp2_with fail
      generalize w.alloc (.cells #[.bool false, .int .i64 0] 53) = w0 at *
      refine (rBool_any g r _ hR1 hl).mono ?_
      rintro e w1 ⟨rfl, hQ⟩
      have hb1 := hQ.keeps hb hne
      go_wp2_with fail
      refine (rU64_any g (rBool r).2 _ hQ.1 (by omega)).mono ?_
      rintro e w2 ⟨rfl, hQ2⟩
      have hb2 := hQ2.keeps hb1 hne
      have hR2 := hQ2.1
      have HQ := Lib.hid (Reads.lay (cs := optV (true, (rU64 (rBool r).2).1)) (Reads.behind hB (hQ.trans hQ2)) hb2 rfl hne (Nat.le_refl _))
      clear hQ hb hb1 hQ2
      go_wp2_with fail
      refine (rErr_any g _ _ hR2).mono ?_
      rintro e w3 ⟨rfl, rfl⟩
      go_wp2_with (first | (refine wpList_store_whole (by rfl) 53 _ _ (by rfl) w.heap.size (optV (true, (rU64 (rBool r).2).1)) _ hb2 (by rfl) (by rfl) (by rfl) (by kernel_rfl) (optV_one _) ?_) | fail)
      refine ret_cells w.heap.size 0 (optV (true, (rU64 (rBool r).2).1)) Tryd.results116 Tryd.underlying53 rfl (by kernel_rfl) rfl HQ.out.2.range rfl ?_
      rw [HN.out]
      exact ⟨rfl, HQ.out.1⟩
    · have HN := Lib.hid (show rOpt r = ((false, 0), (rU64 (rBool r).2).2) by simp [rOpt, hq, he])
      have he' : ((rU64 (rBool r).2).2.e != 0) = true := by simpa using he
      go_enter Tryd.func116, Tryd.ntmps116
      go_wp2_with fail
      generalize w.alloc (.cells #[.bool false, .int .i64 0] 53) = w0 at *
      refine (rBool_any g r _ hR1 hl).mono ?_
      rintro e w1 ⟨rfl, hQ⟩
      have hb1 := hQ.keeps hb hne
      go_wp2_with fail
      refine (rU64_any g (rBool r).2 _ hQ.1 (by omega)).mono ?_
      rintro e w2 ⟨rfl, hQ2⟩
      have hb2 := hQ2.keeps hb1 hne
      have hR2 := hQ2.1
      have HQ := Lib.hid (Reads.lay (cs := optV (false, 0)) (Reads.behind hB (hQ.trans hQ2)) hb2 rfl hne (Nat.le_refl _))
      clear hQ hb hb1 hQ2
      go_wp2_with fail
      refine (rErr_any g _ _ hR2).mono ?_
      rintro e w3 ⟨rfl, rfl⟩
      go_wp2_with (first | (refine wpList_store_whole (by rfl) 53 _ _ (by rfl) w.heap.size (optV (false, 0)) _ hb2 (by rfl) (by rfl) (by rfl) (by kernel_rfl) (by decide) ?_) | fail)
      refine ret_cells w.heap.size 0 (optV (false, 0)) Tryd.results116 Tryd.underlying53 rfl (by kernel_rfl) rfl HQ.out.2.range rfl ?_
      rw [HN.out]
      exact ⟨rfl, HQ.out.1⟩
end Go.Proofs.YthfhdighniiodaaDoor

/-
  Layer 5 in plain words: what attributes, and what is to be set, may be; their bytes; what becomes of them. No condition.
-/
namespace Go.Proofs.YthfhdighniiodaaDoor

def okN (n most : Int) : Bool := decide (0 ≤ n) && decide (n ≤ most)
def Opt.ok (o : Opt) (most : Int) : Bool := if o.is then okN o.n most else o.n == 0
def Sett.ok (s : Sett) : Bool := s.mode.ok 4095 && (s.uid.ok 4294967295 && (s.gid.ok 4294967295 && (s.size.ok 9223372036854775807 && s.time.ok 9223372036854775807)))
def form (b : Bool) : Int := if b then 0 else 14
def Opt.bytes (o : Opt) : List UInt8 := optB o.is o.n
def Sett.bytes (s : Sett) : List UInt8 := s.mode.bytes ++ s.uid.bytes ++ s.gid.bytes ++ s.size.bytes ++ s.time.bytes
def Sett.empty (s : Sett) : Bool := !s.mode.is && (!s.uid.is && (!s.gid.is && (!s.size.is && !s.time.is)))
def Opt.over (o : Opt) (n : Int) : Int := if o.is then o.n else n
def Attr.applied (a : Attr) (s : Sett) (now : Int) : Attr :=
  { a with mode := s.mode.over a.mode, uid := s.uid.over a.uid, gid := s.gid.over a.gid, change := if s.empty then a.change else now, time := if s.time.is then s.time.n else if s.size.is then now else a.time }
def big : Int := 9223372036854775807
def Attr.ok (a : Attr) : Bool :=
  okN a.type 7 && decide (1 ≤ a.type) && okN a.mode 4095 && okN a.nlink 4294967295 && okN a.uid 4294967295 && okN a.gid 4294967295 && okN a.id 4294967295 && decide (0 ≤ a.size) && decide (0 ≤ a.gen) && decide (0 ≤ a.change) && decide (0 ≤ a.time)
theorem Opt.ok_pos {o : Opt} {m : Int} (h : o.ok m = true) : o.is = true → 0 ≤ o.n := fun hi => by
  unfold Opt.ok okN at h
  rw [if_pos hi] at h
  simp at h
  exact h.1
theorem Sett.ok_pos {s : Sett} (h : s.ok = true) : (s.mode.is = true → 0 ≤ s.mode.n) ∧ (s.uid.is = true → 0 ≤ s.uid.n) ∧ (s.gid.is = true → 0 ≤ s.gid.n) ∧ (s.size.is = true → 0 ≤ s.size.n) ∧ (s.time.is = true → 0 ≤ s.time.n) := by
  unfold Sett.ok at h
  simp only [Bool.and_eq_true] at h
  exact ⟨Opt.ok_pos h.1, Opt.ok_pos h.2.1, Opt.ok_pos h.2.2.1, Opt.ok_pos h.2.2.2.1, Opt.ok_pos h.2.2.2.2⟩
/-- the options, in order -/
def Sett.opt (s : Sett) : Nat → Opt
  | 0 => s.mode
  | 1 => s.uid
  | 2 => s.gid
  | 3 => s.size
  | _ => s.time
def Sett.upto (s : Sett) : Nat → List UInt8
  | 0 => []
  | k + 1 => s.upto k ++ (s.opt k).bytes
theorem Sett.upto_five (s : Sett) : s.upto 5 = s.bytes := by simp [Sett.upto, Sett.opt, Sett.bytes]
theorem Opt.bytes_len (o : Opt) : o.bytes.length ≤ 12 := by
  unfold Opt.bytes optB truth
  cases o.is <;> simp [num_len]
theorem Sett.upto_len (s : Sett) (k : Nat) : (s.upto k).length ≤ 12 * k := by
  induction k with
  | zero => simp [Sett.upto]
  | succ k ih => have := (s.opt k).bytes_len; simp only [Sett.upto, List.length_append]; omega
theorem Sett.empty_not {s : Sett} {k : Nat} (hk : k < 5) (h : (s.opt k).is = true) : s.empty = false := by
  match k, hk with
  | 0, _ | 1, _ | 2, _ | 3, _ | 4, _ => simp only [Sett.opt] at h; simp [Sett.empty, h]
theorem Sett.empty_end {s : Sett} (h : ∀ j, j < 5 → (s.opt j).is = false) : s.empty = true := by
  have h0 := h 0 (by omega)
  have h1 := h 1 (by omega)
  have h2 := h 2 (by omega)
  have h3 := h 3 (by omega)
  have h4 := h 4 (by omega)
  simp only [Sett.opt] at h0 h1 h2 h3 h4
  simp [Sett.empty, h0, h1, h2, h3, h4]
theorem Sett.opt_pos {s : Sett} (h : s.ok = true) {k : Nat} (hk : k < 5) : (s.opt k).is = true → 0 ≤ (s.opt k).n := by
  obtain ⟨h0, h1, h2, h3, h4⟩ := Sett.ok_pos h
  match k, hk with
  | 0, _ => exact h0
  | 1, _ => exact h1
  | 2, _ => exact h2
  | 3, _ => exact h3
  | 4, _ => exact h4
theorem Sett.opt_good {s : Sett} (h : s.good) {k : Nat} (hk : k < 5) : (s.opt k).good := by
  obtain ⟨h0, h1, h2, h3, h4⟩ := h
  match k, hk with
  | 0, _ => exact h0
  | 1, _ => exact h1
  | 2, _ => exact h2
  | 3, _ => exact h3
  | 4, _ => exact h4
end Go.Proofs.YthfhdighniiodaaDoor
