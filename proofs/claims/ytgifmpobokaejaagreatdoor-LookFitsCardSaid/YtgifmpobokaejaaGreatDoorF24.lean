/-
  Layer 1, walks: a thing's bytes by the reference; a thing put to a writer. Condition: texts of at most 2^20 bytes.
-/
import Derived.Test.YtgifmpobokaejaaGreatDoorF12
import Derived.Test.YtgifmpobokaejaaGreatDoorF18
import Derived.Test.YtgifmpobokaejaaGreatDoorF02
namespace Go.Proofs.YtgifmpobokaejaaGreatDoor
open Go.RowKit
attribute [local go_sem ↓] Go.wp_at_zero Go.wp_at_succ

set_option maxHeartbeats 800000 in
theorem refOpt_any (b : Bool) (n : Int) (w : World) (hn : b = true → 0 ≤ n) (hi : n ≤ 9223372036854775807) :
    Calls Tryz.prog 93 #[.agg #[.bool b, .int .i64 n]] w fun e w' => e = .returned (.string (bs (optB b n))) ∧ Below w.heap.size w w' := by
  have hr := range_new w [.bool b, .int .i64 n] 30
  have hc0 := hr 0 _ rfl
  have hc1 := hr 1 _ rfl
  have hB0 : Below w.heap.size w (w.alloc (.cells #[.bool b, .int .i64 n] 30)) := (Below.refl _ _).alloc (Nat.le_refl _) _
  have hz1 : w.heap.size < (w.alloc (.cells #[.bool b, .int .i64 n] 30)).heap.size := by simp
  clear hr
  cases b
  · go_enter Tryz.func93, Tryz.ntmps93
    go_wp2_with fail
    refine (refTruth_any false _).mono ?_
    rintro e w2 ⟨rfl, hb⟩
    have hB := below_then hB0 hb
    go_wp2
    go_ret
    exact ⟨ret_string (by simp [optB]), hB⟩
  · obtain ⟨m, rfl⟩ := Int.eq_ofNat_of_zero_le (hn rfl)
    have hZ : (num m 8).length = 8 := num_len _ _
    have hZ2 : (truth true).length = 4 := num_len _ _
    have hs1 := bs_size (truth true)
    have hs2 := bs_size (num m 8)
    go_enter Tryz.func93, Tryz.ntmps93
    go_wp2_with fail
    generalize w.alloc (.cells #[.bool true, .int .i64 m] 30) = w1 at *
    go_region_held3 (fun W => Stb w1 W) (first | exact Stb.start | assumption | (exact Stb.alloc (by assumption) _) | (exact Stb.call (by assumption) (by assumption))) (first
      | (go_at_call 56; refine (refTruth_any true _).mono ?_; rintro e w2 ⟨rfl, hb⟩)
      | (go_at_call 52; refine (refNum_any m 8 _ (by omega) (by omega)).mono ?_; rintro e w3 ⟨rfl, hb3⟩))
    have hs3 : Stb w1 w3 := by assumption
    go_wp2
    go_ret
    exact ⟨ret_string (by simp [optB]), below_then hB0 hs3.below⟩

end Go.Proofs.YtgifmpobokaejaaGreatDoor

/-
  Layer 1, walks: a thing put to a writer; whether things are too many or too long; the fixed calls. Condition: texts of at most 2^20 bytes.
-/
namespace Go.Proofs.YtgifmpobokaejaaGreatDoor
open Go.RowKit
attribute [local go_sem ↓] Go.wp_at_zero Go.wp_at_succ

end Go.Proofs.YtgifmpobokaejaaGreatDoor


/-
  Layer 5, walks: the options of what is to be set, in order; whether there are none; what is to be set is put. No condition.
-/
namespace Go.Proofs.YtgifmpobokaejaaGreatDoor
open Go.RowKit
attribute [local go_sem ↓] Go.wp_at_zero Go.wp_at_succ ldOpt ldSet

attribute [local go_sem] rowAt_ptr rowOf_drew rowOf_drewN

def optPtrs (g : Nat) : List Value := [.pointer (some ⟨g, 0, none⟩), .pointer (some ⟨g, 2, none⟩), .pointer (some ⟨g, 4, none⟩), .pointer (some ⟨g, 6, none⟩), .pointer (some ⟨g, 8, none⟩)]

theorem opt_at {w : World} {g k : Nat} {s : Sett} (hB : Blk w g 32 s.vals) (hk : k < 5) : w.cell? ⟨g, 2 * k, none⟩ = some (.bool (s.opt k).is) ∧ rowOf w g (2 * k) 2 = some (s.opt k).vals.toArray := by
  obtain ⟨-, r0, r1, r2, r3, r4⟩ := settRows hB
  rw [hB.cell]
  match k, hk with
  | 0, _ => exact ⟨rfl, r0⟩
  | 1, _ => exact ⟨rfl, r1⟩
  | 2, _ => exact ⟨rfl, r2⟩
  | 3, _ => exact ⟨rfl, r3⟩
  | 4, _ => exact ⟨rfl, r4⟩

theorem refOptO_any (o : Opt) (w : World) (hn : o.is = true → 0 ≤ o.n) (hi : o.n ≤ 9223372036854775807) :
    Calls Tryz.prog 93 #[.agg o.vals.toArray] w fun e w' => e = .returned (.string (bs o.bytes)) ∧ Below w.heap.size w w' := refOpt_any o.is o.n w hn hi

end Go.Proofs.YtgifmpobokaejaaGreatDoor


/-
  Layer 5, walks: the bytes of what is to be set. No condition.
-/
namespace Go.Proofs.YtgifmpobokaejaaGreatDoor
open Go.RowKit
attribute [local go_sem ↓] Go.wp_at_zero Go.wp_at_succ ldOpt ldSet

attribute [local go_sem] rowAt_ptr rowOf_drew rowOf_drewN

theorem add_bs (a b : List UInt8) (h : a.length + b.length ≤ 9223372036854775807) : Op.stringOp .add (bs a) (bs b) = pure (.string (bs (a ++ b))) := by
  have h2 : ¬ (((bs a).size + (bs b).size : Nat) : Int) > IntKind.i64.max := by
    rw [bs_size, bs_size]
    show ¬ (((a.length + b.length : Nat) : Int) > 9223372036854775807)
    omega
  simp only [Op.stringOp]
  rw [if_neg h2, bs_append]
attribute [local go_sem ↓] add_bs

end Go.Proofs.YtgifmpobokaejaaGreatDoor


/-
  Layer 1, walks: whether things are too many or too long; the laws XdrPads and XdrWrites. No condition.
-/
namespace Go.Proofs.YtgifmpobokaejaaGreatDoor
open Go.RowKit
attribute [local go_sem ↓] Go.wp_at_zero Go.wp_at_succ

def long (t : Thing) : Bool := decide (200 < t.s.length)
theorem thingCell {w : World} {A : Option Addr} {ts : List Thing} (hA : At w 4 A (ts.map Thing.vals)) {k : Nat} (hk : k < ts.length) :
    ∃ b off, A = some ⟨b, off, none⟩ ∧ b < w.heap.size ∧ ∀ j u, ts[k].vals[j]? = some u → w.cell? ⟨b, off + k * 4 + j, none⟩ = some u := by
  obtain ⟨b, off, rfl, hb, hc⟩ := hA.getD (k := k) (by simpa using hk)
  exact ⟨b, off, rfl, hb, fun j u hu => hc j u (by simpa using hu)⟩

def bytesOf (ts : List Thing) : List UInt8 := ts.flatMap Thing.bytes
theorem bytesOf_succ {ts : List Thing} {k : Nat} (hk : k < ts.length) : bytesOf (ts.take (k + 1)) = bytesOf (ts.take k) ++ ts[k].bytes := by
  unfold bytesOf; rw [take_next _ _ hk, List.flatMap_append]; simp
theorem bytesOf_len (ts : List Thing) (h : ∀ t ∈ ts, t.s.length ≤ 200) : (bytesOf ts).length ≤ 216 * ts.length := by
  induction ts with
  | nil => simp [bytesOf]
  | cons t ts ih =>
    have h1 := t.bytes_len
    have h2 := h t (by simp)
    have h3 := ih fun x hx => h x (by simp [hx])
    unfold bytesOf at *
    simp only [List.flatMap_cons, List.length_append, List.length_cons]
    omega

end Go.Proofs.YtgifmpobokaejaaGreatDoor
