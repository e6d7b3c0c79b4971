/-
  Layer 21, walks: what is free, what a user may have more, why not. Conditions: at most 70 nodes, of at most 2000 bytes each; limits that may be.
-/
import Derived.Test.YtgifmpobokaejaaGreatDoorM08
import Derived.Test.YtgifmpobokaejaaGreatDoorM04
import Derived.Great.BuildSlice
namespace Go.Proofs.YtgifmpobokaejaaGreatDoor
open Go.RowKit
attribute [local go_sem ↓] Go.wp_at_zero Go.wp_at_succ

theorem ldTree {ρ : Operand → Value} {w : World} {dst : Option Tmp} {ty : TypeId} {pos : String} {after : Array Edge} {g : Option (Nat × Bool)} {x : Operand} (h : (rowAt w 6 (ρ x)).isSome = true) :
    (execOp ρ ⟨dst, .load 26 x, ty, pos, after, g⟩).run Tryz.prog w = .ok (.value (.agg ((rowAt w 6 (ρ x)).getD #[]))) w := ex_load 26 6 Tryz.underlying26 rfl (by kernel_rfl) h
attribute [local go_sem ↓] ldTree

attribute [local go_sem] rowAt_ptr rowOf_drew rowOf_drewN rowOf_alloc_at rowOf_alloc_past Tr.len

set_option maxRecDepth 20000 in
set_option maxHeartbeats 800000 in
theorem free_any (t : Tr) (w : World) (hs : small t.ns) (ho : t.lim.ok = true) (hA : At w 15 t.na (t.ns.map Nd.vals)) :
    Calls Tryz.prog 131 #[t.val] w fun e w' => e = .returned (.int .i64 (free t)) ∧ Below w.heap.size w w' := by
  have hl := hs.1
  have hu : used t.ns ≤ 2000 * 70 := Nat.le_trans (used_le _ hs.2) (Nat.mul_le_mul (Nat.le_refl _) hl)
  have hlb := Lim.bounds ho
  have c0 := range_new w t.vals 26 0 _ rfl
  have c5 := range_new w t.vals 26 5 _ rfl
  have hz : w.heap.size < (w.alloc (.cells t.vals.toArray 26)).heap.size := by simp
  have hA1 := hA.alloc (.cells t.vals.toArray 26)
  have hB1 : Below w.heap.size w (w.alloc (.cells t.vals.toArray 26)) := (Below.refl _ _).alloc (Nat.le_refl _) _
  have hwr : IntKind.i64.wrap (t.lim.space - (used t.ns : Int)) = t.lim.space - (used t.ns : Int) := IntWalk.i64_in _ (by omega)
  have HO := Lib.hid ho
  clear ho
  have HS := Lib.hid hs
  clear hs
  unfold Tr.val
  go_enter Tryz.func131, Tryz.ntmps131
  go_wp2_with fail
  generalize w.alloc (.cells t.vals.toArray 26) = w1 at *
  go_region_held3 (fun W => Stb w1 W) (first | exact Stb.start | assumption | (exact Stb.call (by assumption) (by assumption))) (first | (go_at_call 144; refine (used_any _ _ t.ns _ HS.out (hA1.stb (by assumption))).mono ?_; rintro e w' ⟨rfl, hb⟩))
  go_wp2
  all_goals
    go_ret
    refine ⟨ret_int ?_, hB1.trans ((by assumption : Stb w1 _).below.mono hB1.size)⟩
    unfold free
    omega

theorem used_small {ns : List Nd} (hs : small ns) : used ns ≤ 2000 * 70 := Nat.le_trans (used_le _ hs.2) (Nat.mul_le_mul (Nat.le_refl _) hs.1)
theorem owned_small {ns : List Nd} (hs : small ns) (uid : Int) : owned ns uid ≤ 2000 * 70 := Nat.le_trans (used_filter_le _ _) (used_small hs)

set_option maxRecDepth 20000 in
set_option maxHeartbeats 1600000 in
theorem left_any (t : Tr) (uid : Int) (w : World) (hs : small t.ns) (ho : t.lim.ok = true) (hA : At w 15 t.na (t.ns.map Nd.vals)) :
    Calls Tryz.prog 132 #[t.val, .int .i64 uid] w fun e w' => e = .returned (.int .i64 (left t uid)) ∧ Below w.heap.size w w' := by
  have hu := owned_small hs uid
  have hlb := Lim.bounds ho
  have hcr := range_new w t.vals 26
  have hrow := rowOf_of hcr (Tr.len t) (by omega)
  have c1 := hcr 1 _ rfl
  have c5 := hcr 5 _ rfl
  have hz : w.heap.size < (w.alloc (.cells t.vals.toArray 26)).heap.size := by simp
  have hA1 := hA.alloc (.cells t.vals.toArray 26)
  have hB1 : Below w.heap.size w (w.alloc (.cells t.vals.toArray 26)) := (Below.refl _ _).alloc (Nat.le_refl _) _
  have hwr : IntKind.i64.wrap (t.lim.quota - (owned t.ns uid : Int)) = t.lim.quota - (owned t.ns uid : Int) := IntWalk.i64_in _ (by omega)
  have HO := Lib.hid ho
  clear ho
  have HS := Lib.hid hs
  clear hs
  by_cases h0 : (uid == 0) = true
  · have hL : Hid (left t uid = free t) := by show left t uid = free t; unfold left; rw [if_pos h0]
    go_enter Tryz.func132, Tryz.ntmps132
    unfold Tr.val
    go_wp2_with (refine wpList_load_mid (by rfl) 26 _ (by rfl) _ _ (by rfl) t.vals _ hcr Tryz.underlying26 (by rfl) (by kernel_rfl) ?_)
    refine (free_any t _ HS.out HO.out hA1).mono ?_
    rintro e w' ⟨rfl, hb⟩
    go_wp2
    go_ret
    exact ⟨ret_int hL.out.symm, below_new _ hb⟩
  · rw [Bool.not_eq_true] at h0
    have hL : Hid (left t uid = min (free t) (max 0 (t.lim.quota - owned t.ns uid))) := by show _ = _; unfold left; rw [if_neg (by simp [h0])]
    unfold Tr.val
    by_cases hq : (owned t.ns uid : Int) < t.lim.quota
    all_goals
      go_enter Tryz.func132, Tryz.ntmps132
      go_wp2_with fail
      generalize w.alloc (.cells t.vals.toArray 26) = w1 at *
      go_region_held3 (fun W => Stb w1 W) (first | exact Stb.start | assumption | (exact Stb.alloc (by assumption) _) | (exact Stb.call (by assumption) (by assumption))) (first | (go_at_call 146; refine (owned_any _ _ t.ns _ _ HS.out (hA1.stb (by assumption))).mono ?_; rintro e w' ⟨rfl, hb⟩) | (go_at_call 131; refine (free_any t _ HS.out HO.out (hA1.stb (by assumption))).mono ?_; rintro e w' ⟨rfl, hb⟩) | (go_at_call 145; refine (least_any _ _ _ _ _ (ints_new [_, _] _ _)).mono ?_; rintro e w' ⟨rfl, hb⟩))
      go_wp2
      go_ret
      refine ⟨ret_int ?_, hB1.trans ((by assumption : Stb w1 _).below.mono hB1.size)⟩
      rw [hL.out]
      congr 1
      omega
end Go.Proofs.YtgifmpobokaejaaGreatDoor

/-
  Layer 21, walks: which limits may be, whether a user may have more. Conditions: at most 70 nodes, of at most 2000 bytes each; limits that may be.
-/
namespace Go.Proofs.YtgifmpobokaejaaGreatDoor
open Go.RowKit
attribute [local go_sem ↓] Go.wp_at_zero Go.wp_at_succ ldTree

attribute [local go_sem] rowAt_ptr rowOf_drew rowOf_drewN rowOf_alloc_at rowOf_alloc_past Tr.len

theorem Lim.cases (l : Lim) : (0 ≤ l.space ∧ l.space ≤ 1073741824 ∧ 0 ≤ l.quota ∧ l.quota ≤ 1073741824 ∧ 1 ≤ l.nodes ∧ l.nodes ≤ 64) ∨ (l.space < 0) ∨ (0 ≤ l.space ∧ 1073741824 < l.space) ∨ (0 ≤ l.space ∧ l.space ≤ 1073741824 ∧ l.quota < 0) ∨
    (0 ≤ l.space ∧ l.space ≤ 1073741824 ∧ 0 ≤ l.quota ∧ 1073741824 < l.quota) ∨ (0 ≤ l.space ∧ l.space ≤ 1073741824 ∧ 0 ≤ l.quota ∧ l.quota ≤ 1073741824 ∧ l.nodes < 1) ∨
    (0 ≤ l.space ∧ l.space ≤ 1073741824 ∧ 0 ≤ l.quota ∧ l.quota ≤ 1073741824 ∧ 1 ≤ l.nodes ∧ 64 < l.nodes) := by omega
theorem Lim.ok_iff (l : Lim) : l.ok = decide (0 ≤ l.space ∧ l.space ≤ 1073741824 ∧ 0 ≤ l.quota ∧ l.quota ≤ 1073741824 ∧ 1 ≤ l.nodes ∧ l.nodes ≤ 64) := by
  rw [Bool.eq_iff_iff]; simp only [Lim.ok, Bool.and_eq_true, decide_eq_true_eq]; omega
/-- OK, or an error -/
def errv (c : Int) (ok : Bool) : Int := if ok then 0 else c
theorem Lim.yes {l : Lim} (h : 0 ≤ l.space ∧ l.space ≤ 1073741824 ∧ 0 ≤ l.quota ∧ l.quota ≤ 1073741824 ∧ 1 ≤ l.nodes ∧ l.nodes ≤ 64) : l.ok = true := by rw [Lim.ok_iff]; exact decide_eq_true h
theorem Lim.no {l : Lim} (h : ¬ (0 ≤ l.space ∧ l.space ≤ 1073741824 ∧ 0 ≤ l.quota ∧ l.quota ≤ 1073741824 ∧ 1 ≤ l.nodes ∧ l.nodes ≤ 64)) : l.ok = false := by rw [Lim.ok_iff]; exact decide_eq_false h

set_option maxRecDepth 20000 in
set_option maxHeartbeats 1600000 in
theorem refCheck_any (l : Lim) (w : World) :
    Calls Tryz.prog 20 #[.agg l.vals.toArray] w fun e w' => e = .returned (.bool l.ok) ∧ Below w.heap.size w w' := by
  have hcr := range_new w l.vals 23
  have c0 := hcr 0 _ rfl
  have c1 := hcr 1 _ rfl
  have c2 := hcr 2 _ rfl
  have hB1 : Below w.heap.size w (w.alloc (.cells l.vals.toArray 23)) := (Below.refl _ _).alloc (Nat.le_refl _) _
  clear hcr
  rcases Lim.cases l with h | h | h | h | h | h | h
  · have hr := Lib.hid (Lim.yes h)
    go_enter Tryz.func20, Tryz.ntmps20
    go_wp2
    go_ret
    exact ⟨ret_bool (by rw [hr.out]; first | done | rfl | (simp; done) | (simp; omega)), hB1⟩
  all_goals
    have hr := Lib.hid (Lim.no (l := l) (by omega))
    go_enter Tryz.func20, Tryz.ntmps20
    go_wp2
    go_ret
    exact ⟨ret_bool (by rw [hr.out]; first | done | rfl | (simp; done) | (simp; omega)), hB1⟩

set_option maxRecDepth 20000 in
set_option maxHeartbeats 1600000 in
theorem check_any (l : Lim) (w : World) :
    Calls Tryz.prog 57 #[.agg l.vals.toArray] w fun e w' => e = .returned (.int .i64 (errv 3 l.ok)) ∧ Below w.heap.size w w' := by
  have hcr := range_new w l.vals 23
  have c0 := hcr 0 _ rfl
  have c1 := hcr 1 _ rfl
  have c2 := hcr 2 _ rfl
  have hB1 : Below w.heap.size w (w.alloc (.cells l.vals.toArray 23)) := (Below.refl _ _).alloc (Nat.le_refl _) _
  clear hcr
  rcases Lim.cases l with h | h | h | h | h | h | h
  · have hr := Lib.hid (Lim.yes h)
    go_enter Tryz.func57, Tryz.ntmps57
    go_wp2
    go_ret
    exact ⟨ret_int (by rw [hr.out]; rfl), hB1⟩
  all_goals
    have hr := Lib.hid (Lim.no (l := l) (by omega))
    go_enter Tryz.func57, Tryz.ntmps57
    go_wp2
    go_ret
    exact ⟨ret_int (by rw [hr.out]; rfl), hB1⟩

end Go.Proofs.YtgifmpobokaejaaGreatDoor


/-
  Layer 21, walks: the fixed calls, and the law SpaceRoom. No condition but that lengths are machine numbers.
-/
namespace Go.Proofs.YtgifmpobokaejaaGreatDoor
open Go.RowKit
attribute [local go_sem ↓] Go.wp_at_zero Go.wp_at_succ ldTree

attribute [local go_sem] rowAt_ptr rowOf_drew rowOf_drewN rowOf_alloc_at rowOf_alloc_past Tr.len

def knownNd : Nd := { attr := ⟨0, 0, 0, 1, 0, 0, 1, 0, 0, 0⟩, data := ⟨#[97, 98, 99, 100, 101]⟩, verf := 0, parent := 0, last := 0, ea := none, en := 0, ec := 0 }
def knownTr (g : Nat) : Tr := { lim := ⟨10, 6, 4⟩, now := 0, gens := 0, na := some ⟨g, 0, none⟩, nc := 1, ns := [knownNd] }
theorem known_at (w : World) : At (w.alloc (.cells knownNd.vals.toArray 65)) 15 (some ⟨w.heap.size, 0, none⟩) ((knownTr w.heap.size).ns.map Nd.vals) := by
  intro i r hr
  match i, hr with
  | 0, hr =>
    have : r = knownNd.vals := by simpa [knownTr] using hr.symm
    subst this
    exact ⟨w.heap.size, 0, rfl, by simp, range_new w knownNd.vals 65⟩
theorem known_small (g : Nat) : small (knownTr g).ns := ⟨by show 1 ≤ 70; omega, fun n hn => by
  have : n = knownNd := by simpa [knownTr] using hn
  subst this; decide⟩

theorem known_row (w : World) : rowOf ((w.alloc (.cells knownNd.vals.toArray 65)).alloc (.cells (knownTr w.heap.size).vals.toArray 26)) (w.heap.size + 1) 0 6 = some (knownTr w.heap.size).vals.toArray :=
  rowOf_alloc_at _ _ _ _ _ (by simp) rfl
theorem known_lim (g : Nat) : (knownTr g).lim.ok = true := rfl
theorem known_r1 (g : Nat) : room (knownTr g) 1 2 = 69 := by rfl
theorem known_r2 (g : Nat) : room (knownTr g) 2 6 = 28 := by rfl
theorem known_r3 (g : Nat) : room (knownTr g) 1 1 = 0 := by rfl
theorem known_free (g id : Nat) (h : Free (knownTr g).ns id) : id = 2 :=
  Free.unique h ⟨by omega, rfl, fun j h1 h2 => by obtain rfl : j = 1 := by omega
                                                  rfl⟩

/-- what is read of a tree's nodes: lengths are machine numbers -/
def sized (ns : List Nd) : Prop := ns.length ≤ 9223372036854775807 ∧ ∀ n ∈ ns, n.data.size ≤ 9223372036854775807 ∧ n.en ≤ 9223372036854775807

end Go.Proofs.YtgifmpobokaejaaGreatDoor


/-
  A slice literal of one struct whose cells are a term. No condition but the struct's size.
-/
namespace Go.Proofs.YtgifmpobokaejaaGreatDoor
open Go.RowKit

theorem fill_one (s : Nat) (hs : 0 < s) (base c : Array Value) (hb : base.size = s) (hc : c.size = s) : Instr.fill (fun i => some (i * s, s)) base [(0, .agg c)] = some c := by
  have hv : ∀ v ∈ [Value.agg c], v.cells.size = s := fun v h => by
    obtain rfl := List.mem_singleton.1 h
    exact hc
  obtain ⟨r, hr, hsz, hk⟩ := Great.fill_dense hs [Value.agg c] 0 base hv (by simp only [List.length_cons, List.length_nil]; omega)
  have hr2 : Instr.fill (fun i => some (i * s, s)) base [(0, .agg c)] = some r := hr
  rw [hr2]
  congr 1
  apply Array.ext
  · omega
  · intro k h1 h2
    have h3 := hk k
    have hk2 : k < s := by omega
    rw [if_pos (by simp only [List.length_cons, List.length_nil]; omega), Nat.div_eq_of_lt hk2, Nat.mod_eq_of_lt hk2] at h3
    have h4 : r[k]? = c[k]? := h3
    rw [Array.getElem?_eq_getElem h1, Array.getElem?_eq_getElem h2] at h4
    exact Option.some.inj h4
theorem wpList_buildSlice_one {P : Program} {ops : Array Oper} {rest : List Oper} {o : Oper} {a : Act} {w : World} {Q : Exit → Act → World → Prop} (hg : o.guard = none) (t e : TypeId) (x : Operand) (ho : o.op = .buildSlice t 1 #[(0, x)])
    (cs : List Value) (hx : a.eval x = .agg cs.toArray) (hu : P.underlying t = some (.slice e)) (ie : TypeInfo) (z : Value) (hie : P.info? e = some ie) (hz : ie.zero = some z) (_hzs : z.cells.size = cs.length) (hsize : ie.size = cs.length) (h0 : 0 < cs.length) (hsm : cs.length ≤ 1000)
    (h : wpList P ops Q rest (a.put o.dst (.slice (some ⟨w.heap.size, 0, none⟩) 1 1)) (w.alloc (.cells cs.toArray e))) : wpList P ops Q (o :: rest) a w := by
  refine wpList_buildSlice hg t e 1 #[(0, x)] ho cs.toArray ie z hu hie hz (by rw [hsize]; omega) (by rw [hsize]; omega) ?_ h
  rw [hsize]
  have hm : ((#[(0, x)] : Array (Nat × Operand)).map fun (i, x) => (i, a.eval x)).toList = [(0, .agg cs.toArray)] := by simp [hx]
  rw [hm]
  exact fill_one cs.length h0 _ _ (by simp) (by simp)
end Go.Proofs.YtgifmpobokaejaaGreatDoor
