/-
  Layer 21, walks: what is free, what a user may have more, why not. Conditions: at most 70 nodes, of at most 2000 bytes each; limits that may be.
-/
import Derived.Test.YtgifmpobokaejaaGreatDoorM08
import Derived.Test.YtgifmpobokaejaaGreatDoorM04
import Derived.Great.BuildSlice
import Derived.ArgAppend
import Derived.Laws.IdiomStrings
import Derived.Test.YtgifmpobokaejaaGreatDoorM02
namespace Go.Proofs.YtgifmpobokaejaaGreatDoor
open Go.RowKit
attribute [local go_sem ↓] Go.wp_at_zero Go.wp_at_succ

theorem ldTree {ρ : Operand → Value} {w : World} {dst : Option Tmp} {ty : TypeId} {pos : String} {after : Array Edge} {g : Option (Nat × Bool)} {x : Operand} (h : (rowAt w 6 (ρ x)).isSome = true) :
    (execOp ρ ⟨dst, .load 26 x, ty, pos, after, g⟩).run Tryz.prog w = .ok (.value (.agg ((rowAt w 6 (ρ x)).getD #[]))) w := ex_load 26 6 Tryz.underlying26 rfl (by kernel_rfl) h
attribute [local go_sem ↓] ldTree

attribute [local go_sem] rowAt_ptr rowOf_drew rowOf_drewN rowOf_alloc_at rowOf_alloc_past Tr.len

set_option maxRecDepth 20000 in
set_option maxHeartbeats 800000 in
theorem free_any (t : Tr) (w : World) (hs : small t.ns) (ho : t.lim.ok = true) (hA : At w 15 t.na (t.ns.map Nd.vals)) :
    Calls Tryz.prog 131 #[t.val] w fun e w' => e = .returned (.int .i64 (free t)) ∧ Below w.heap.size w w' := by
  have hl := hs.1
  have hu : used t.ns ≤ 2000 * 70 := Nat.le_trans (used_le _ hs.2) (Nat.mul_le_mul (Nat.le_refl _) hl)
  have hlb := Lim.bounds ho
  have c0 := range_new w t.vals 26 0 _ rfl
  have c5 := range_new w t.vals 26 5 _ rfl
  have hz : w.heap.size < (w.alloc (.cells t.vals.toArray 26)).heap.size := by simp
  have hA1 := hA.alloc (.cells t.vals.toArray 26)
  have hB1 : Below w.heap.size w (w.alloc (.cells t.vals.toArray 26)) := (Below.refl _ _).alloc (Nat.le_refl _) _
  have hwr : IntKind.i64.wrap (t.lim.space - (used t.ns : Int)) = t.lim.space - (used t.ns : Int) := IntWalk.i64_in _ (by omega)
  have HO := Lib.hid ho
  clear ho
  have HS := Lib.hid hs
  clear hs
  unfold Tr.val
  go_enter Tryz.func131, Tryz.ntmps131
  go_wp2_with fail
  generalize w.alloc (.cells t.vals.toArray 26) = w1 at *
  go_region_held3 (fun W => Stb w1 W) (first | exact Stb.start | assumption | (exact Stb.call (by assumption) (by assumption))) (first | (go_at_call 144; refine (used_any _ _ t.ns _ HS.out (hA1.stb (by assumption))).mono ?_; rintro e w' ⟨rfl, hb⟩))
  go_wp2
  all_goals
    go_ret
    refine ⟨ret_int ?_, hB1.trans ((by assumption : Stb w1 _).below.mono hB1.size)⟩
    unfold free
    omega

theorem used_small {ns : List Nd} (hs : small ns) : used ns ≤ 2000 * 70 := Nat.le_trans (used_le _ hs.2) (Nat.mul_le_mul (Nat.le_refl _) hs.1)
theorem owned_small {ns : List Nd} (hs : small ns) (uid : Int) : owned ns uid ≤ 2000 * 70 := Nat.le_trans (used_filter_le _ _) (used_small hs)

set_option maxRecDepth 20000 in
set_option maxHeartbeats 1600000 in
theorem left_any (t : Tr) (uid : Int) (w : World) (hs : small t.ns) (ho : t.lim.ok = true) (hA : At w 15 t.na (t.ns.map Nd.vals)) :
    Calls Tryz.prog 132 #[t.val, .int .i64 uid] w fun e w' => e = .returned (.int .i64 (left t uid)) ∧ Below w.heap.size w w' := by
  have hu := owned_small hs uid
  have hlb := Lim.bounds ho
  have hcr := range_new w t.vals 26
  have hrow := rowOf_of hcr (Tr.len t) (by omega)
  have c1 := hcr 1 _ rfl
  have c5 := hcr 5 _ rfl
  have hz : w.heap.size < (w.alloc (.cells t.vals.toArray 26)).heap.size := by simp
  have hA1 := hA.alloc (.cells t.vals.toArray 26)
  have hB1 : Below w.heap.size w (w.alloc (.cells t.vals.toArray 26)) := (Below.refl _ _).alloc (Nat.le_refl _) _
  have hwr : IntKind.i64.wrap (t.lim.quota - (owned t.ns uid : Int)) = t.lim.quota - (owned t.ns uid : Int) := IntWalk.i64_in _ (by omega)
  have HO := Lib.hid ho
  clear ho
  have HS := Lib.hid hs
  clear hs
  by_cases h0 : (uid == 0) = true
  · have hL : Hid (left t uid = free t) := by show left t uid = free t; unfold left; rw [if_pos h0]
    go_enter Tryz.func132, Tryz.ntmps132
    unfold Tr.val
    go_wp2_with (refine wpList_load_mid (by rfl) 26 _ (by rfl) _ _ (by rfl) t.vals _ hcr Tryz.underlying26 (by rfl) (by kernel_rfl) ?_)
    refine (free_any t _ HS.out HO.out hA1).mono ?_
    rintro e w' ⟨rfl, hb⟩
    go_wp2
    go_ret
    exact ⟨ret_int hL.out.symm, below_new _ hb⟩
  · rw [Bool.not_eq_true] at h0
    have hL : Hid (left t uid = min (free t) (max 0 (t.lim.quota - owned t.ns uid))) := by show _ = _; unfold left; rw [if_neg (by simp [h0])]
    unfold Tr.val
    by_cases hq : (owned t.ns uid : Int) < t.lim.quota
    all_goals
      go_enter Tryz.func132, Tryz.ntmps132
      go_wp2_with fail
      generalize w.alloc (.cells t.vals.toArray 26) = w1 at *
      go_region_held3 (fun W => Stb w1 W) (first | exact Stb.start | assumption | (exact Stb.alloc (by assumption) _) | (exact Stb.call (by assumption) (by assumption))) (first | (go_at_call 146; refine (owned_any _ _ t.ns _ _ HS.out (hA1.stb (by assumption))).mono ?_; rintro e w' ⟨rfl, hb⟩) | (go_at_call 131; refine (free_any t _ HS.out HO.out (hA1.stb (by assumption))).mono ?_; rintro e w' ⟨rfl, hb⟩) | (go_at_call 145; refine (least_any _ _ _ _ _ (ints_new [_, _] _ _)).mono ?_; rintro e w' ⟨rfl, hb⟩))
      go_wp2
      go_ret
      refine ⟨ret_int ?_, hB1.trans ((by assumption : Stb w1 _).below.mono hB1.size)⟩
      rw [hL.out]
      congr 1
      omega
end Go.Proofs.YtgifmpobokaejaaGreatDoor

/-
  Layer 21, walks: which limits may be, whether a user may have more. Conditions: at most 70 nodes, of at most 2000 bytes each; limits that may be.
-/
namespace Go.Proofs.YtgifmpobokaejaaGreatDoor
open Go.RowKit
attribute [local go_sem ↓] Go.wp_at_zero Go.wp_at_succ ldTree

attribute [local go_sem] rowAt_ptr rowOf_drew rowOf_drewN rowOf_alloc_at rowOf_alloc_past Tr.len

theorem Lim.cases (l : Lim) : (0 ≤ l.space ∧ l.space ≤ 1073741824 ∧ 0 ≤ l.quota ∧ l.quota ≤ 1073741824 ∧ 1 ≤ l.nodes ∧ l.nodes ≤ 64) ∨ (l.space < 0) ∨ (0 ≤ l.space ∧ 1073741824 < l.space) ∨ (0 ≤ l.space ∧ l.space ≤ 1073741824 ∧ l.quota < 0) ∨
    (0 ≤ l.space ∧ l.space ≤ 1073741824 ∧ 0 ≤ l.quota ∧ 1073741824 < l.quota) ∨ (0 ≤ l.space ∧ l.space ≤ 1073741824 ∧ 0 ≤ l.quota ∧ l.quota ≤ 1073741824 ∧ l.nodes < 1) ∨
    (0 ≤ l.space ∧ l.space ≤ 1073741824 ∧ 0 ≤ l.quota ∧ l.quota ≤ 1073741824 ∧ 1 ≤ l.nodes ∧ 64 < l.nodes) := by omega
theorem Lim.ok_iff (l : Lim) : l.ok = decide (0 ≤ l.space ∧ l.space ≤ 1073741824 ∧ 0 ≤ l.quota ∧ l.quota ≤ 1073741824 ∧ 1 ≤ l.nodes ∧ l.nodes ≤ 64) := by
  rw [Bool.eq_iff_iff]; simp only [Lim.ok, Bool.and_eq_true, decide_eq_true_eq]; omega
/-- OK, or an error -/
def errv (c : Int) (ok : Bool) : Int := if ok then 0 else c
theorem Lim.yes {l : Lim} (h : 0 ≤ l.space ∧ l.space ≤ 1073741824 ∧ 0 ≤ l.quota ∧ l.quota ≤ 1073741824 ∧ 1 ≤ l.nodes ∧ l.nodes ≤ 64) : l.ok = true := by rw [Lim.ok_iff]; exact decide_eq_true h
theorem Lim.no {l : Lim} (h : ¬ (0 ≤ l.space ∧ l.space ≤ 1073741824 ∧ 0 ≤ l.quota ∧ l.quota ≤ 1073741824 ∧ 1 ≤ l.nodes ∧ l.nodes ≤ 64)) : l.ok = false := by rw [Lim.ok_iff]; exact decide_eq_false h

set_option maxRecDepth 20000 in
set_option maxHeartbeats 1600000 in
theorem refCheck_any (l : Lim) (w : World) :
    Calls Tryz.prog 20 #[.agg l.vals.toArray] w fun e w' => e = .returned (.bool l.ok) ∧ Below w.heap.size w w' := by
  have hcr := range_new w l.vals 23
  have c0 := hcr 0 _ rfl
  have c1 := hcr 1 _ rfl
  have c2 := hcr 2 _ rfl
  have hB1 : Below w.heap.size w (w.alloc (.cells l.vals.toArray 23)) := (Below.refl _ _).alloc (Nat.le_refl _) _
  clear hcr
  rcases Lim.cases l with h | h | h | h | h | h | h
  · have hr := Lib.hid (Lim.yes h)
    go_enter Tryz.func20, Tryz.ntmps20
    go_wp2
    go_ret
    exact ⟨ret_bool (by rw [hr.out]; first | done | rfl | (simp; done) | (simp; omega)), hB1⟩
  all_goals
    have hr := Lib.hid (Lim.no (l := l) (by omega))
    go_enter Tryz.func20, Tryz.ntmps20
    go_wp2
    go_ret
    exact ⟨ret_bool (by rw [hr.out]; first | done | rfl | (simp; done) | (simp; omega)), hB1⟩

set_option maxRecDepth 20000 in
set_option maxHeartbeats 1600000 in
theorem check_any (l : Lim) (w : World) :
    Calls Tryz.prog 57 #[.agg l.vals.toArray] w fun e w' => e = .returned (.int .i64 (errv 3 l.ok)) ∧ Below w.heap.size w w' := by
  have hcr := range_new w l.vals 23
  have c0 := hcr 0 _ rfl
  have c1 := hcr 1 _ rfl
  have c2 := hcr 2 _ rfl
  have hB1 : Below w.heap.size w (w.alloc (.cells l.vals.toArray 23)) := (Below.refl _ _).alloc (Nat.le_refl _) _
  clear hcr
  rcases Lim.cases l with h | h | h | h | h | h | h
  · have hr := Lib.hid (Lim.yes h)
    go_enter Tryz.func57, Tryz.ntmps57
    go_wp2
    go_ret
    exact ⟨ret_int (by rw [hr.out]; rfl), hB1⟩
  all_goals
    have hr := Lib.hid (Lim.no (l := l) (by omega))
    go_enter Tryz.func57, Tryz.ntmps57
    go_wp2
    go_ret
    exact ⟨ret_int (by rw [hr.out]; rfl), hB1⟩

end Go.Proofs.YtgifmpobokaejaaGreatDoor


/-
  Layer 21, walks: the fixed calls, and the law SpaceRoom. No condition but that lengths are machine numbers.
-/
namespace Go.Proofs.YtgifmpobokaejaaGreatDoor
open Go.RowKit
attribute [local go_sem ↓] Go.wp_at_zero Go.wp_at_succ ldTree

attribute [local go_sem] rowAt_ptr rowOf_drew rowOf_drewN rowOf_alloc_at rowOf_alloc_past Tr.len

def knownNd : Nd := { attr := ⟨0, 0, 0, 1, 0, 0, 1, 0, 0, 0⟩, data := ⟨#[97, 98, 99, 100, 101]⟩, verf := 0, parent := 0, last := 0, ea := none, en := 0, ec := 0 }
def knownTr (g : Nat) : Tr := { lim := ⟨10, 6, 4⟩, now := 0, gens := 0, na := some ⟨g, 0, none⟩, nc := 1, ns := [knownNd] }
theorem known_at (w : World) : At (w.alloc (.cells knownNd.vals.toArray 65)) 15 (some ⟨w.heap.size, 0, none⟩) ((knownTr w.heap.size).ns.map Nd.vals) := by
  intro i r hr
  match i, hr with
  | 0, hr =>
    have : r = knownNd.vals := by simpa [knownTr] using hr.symm
    subst this
    exact ⟨w.heap.size, 0, rfl, by simp, range_new w knownNd.vals 65⟩
theorem known_small (g : Nat) : small (knownTr g).ns := ⟨by show 1 ≤ 70; omega, fun n hn => by
  have : n = knownNd := by simpa [knownTr] using hn
  subst this; decide⟩

theorem known_row (w : World) : rowOf ((w.alloc (.cells knownNd.vals.toArray 65)).alloc (.cells (knownTr w.heap.size).vals.toArray 26)) (w.heap.size + 1) 0 6 = some (knownTr w.heap.size).vals.toArray :=
  rowOf_alloc_at _ _ _ _ _ (by simp) rfl
theorem known_lim (g : Nat) : (knownTr g).lim.ok = true := rfl
theorem known_r1 (g : Nat) : room (knownTr g) 1 2 = 69 := by rfl
theorem known_r2 (g : Nat) : room (knownTr g) 2 6 = 28 := by rfl
theorem known_r3 (g : Nat) : room (knownTr g) 1 1 = 0 := by rfl
theorem known_free (g id : Nat) (h : Free (knownTr g).ns id) : id = 2 :=
  Free.unique h ⟨by omega, rfl, fun j h1 h2 => by obtain rfl : j = 1 := by omega
                                                  rfl⟩

/-- what is read of a tree's nodes: lengths are machine numbers -/
def sized (ns : List Nd) : Prop := ns.length ≤ 9223372036854775807 ∧ ∀ n ∈ ns, n.data.size ≤ 9223372036854775807 ∧ n.en ≤ 9223372036854775807

end Go.Proofs.YtgifmpobokaejaaGreatDoor


/-
  A slice literal of one struct whose cells are a term. No condition but the struct's size.
-/
namespace Go.Proofs.YtgifmpobokaejaaGreatDoor
open Go.RowKit

theorem fill_one (s : Nat) (hs : 0 < s) (base c : Array Value) (hb : base.size = s) (hc : c.size = s) : Instr.fill (fun i => some (i * s, s)) base [(0, .agg c)] = some c := by
  have hv : ∀ v ∈ [Value.agg c], v.cells.size = s := fun v h => by
    obtain rfl := List.mem_singleton.1 h
    exact hc
  obtain ⟨r, hr, hsz, hk⟩ := Great.fill_dense hs [Value.agg c] 0 base hv (by simp only [List.length_cons, List.length_nil]; omega)
  have hr2 : Instr.fill (fun i => some (i * s, s)) base [(0, .agg c)] = some r := hr
  rw [hr2]
  congr 1
  apply Array.ext
  · omega
  · intro k h1 h2
    have h3 := hk k
    have hk2 : k < s := by omega
    rw [if_pos (by simp only [List.length_cons, List.length_nil]; omega), Nat.div_eq_of_lt hk2, Nat.mod_eq_of_lt hk2] at h3
    have h4 : r[k]? = c[k]? := h3
    rw [Array.getElem?_eq_getElem h1, Array.getElem?_eq_getElem h2] at h4
    exact Option.some.inj h4
theorem wpList_buildSlice_one {P : Program} {ops : Array Oper} {rest : List Oper} {o : Oper} {a : Act} {w : World} {Q : Exit → Act → World → Prop} (hg : o.guard = none) (t e : TypeId) (x : Operand) (ho : o.op = .buildSlice t 1 #[(0, x)])
    (cs : List Value) (hx : a.eval x = .agg cs.toArray) (hu : P.underlying t = some (.slice e)) (ie : TypeInfo) (z : Value) (hie : P.info? e = some ie) (hz : ie.zero = some z) (_hzs : z.cells.size = cs.length) (hsize : ie.size = cs.length) (h0 : 0 < cs.length) (hsm : cs.length ≤ 1000)
    (h : wpList P ops Q rest (a.put o.dst (.slice (some ⟨w.heap.size, 0, none⟩) 1 1)) (w.alloc (.cells cs.toArray e))) : wpList P ops Q (o :: rest) a w := by
  refine wpList_buildSlice hg t e 1 #[(0, x)] ho cs.toArray ie z hu hie hz (by rw [hsize]; omega) (by rw [hsize]; omega) ?_ h
  rw [hsize]
  have hm : ((#[(0, x)] : Array (Nat × Operand)).map fun (i, x) => (i, a.eval x)).toList = [(0, .agg cs.toArray)] := by simp [hx]
  rw [hm]
  exact fill_one cs.length h0 _ _ (by simp) (by simp)
end Go.Proofs.YtgifmpobokaejaaGreatDoor


/-
  A row of bytes of the call's own; behind its last cell a mark may lie, as '[]byte(s)' leaves it. No condition but sizes.
-/
namespace Go.Proofs.YtgifmpobokaejaaGreatDoor
open Go.RowKit

/-- block g is just these cells; a mark may lie behind them -/
def BlkM (w : World) (g : Nat) (t : TypeId) (cs : List Value) : Prop := ∃ m : Nat × Nat, (m = (0, 0) ∨ cs.length ≤ m.1) ∧ w.heap[g]? = some (.cells cs.toArray t m)
section
variable {w w' : World} {g : Nat} {t : TypeId} {cs : List Value}
theorem BlkM.lt (h : BlkM w g t cs) : g < w.heap.size := by
  obtain ⟨m, _, h⟩ := h
  rcases Nat.lt_or_ge g w.heap.size with hlt | hge
  · exact hlt
  · rw [Array.getElem?_eq_none hge] at h; cases h
theorem BlkM.cell (h : BlkM w g t cs) (i : Nat) : w.cell? ⟨g, i, none⟩ = cs[i]? := by
  obtain ⟨m, _, h⟩ := h
  rw [cell_of_row w g i _ t m h]; simp
theorem BlkM.frozen (h : BlkM w g t cs) {i : Nat} (hi : i < cs.length) : w.frozen? ⟨g, i, none⟩ = false := by
  obtain ⟨m, hm, h⟩ := h
  obtain ⟨m1, m2⟩ := m
  simp only [World.frozen?, h]
  rcases hm with hm | hm
  · injection hm with h1 h2; subst h1; subst h2; simp
  · simp; intro h3; exfalso; simp at hm; omega
theorem Blk.marked (h : Blk w g t cs) : BlkM w g t cs := ⟨(0, 0), .inl rfl, h⟩
theorem BlkM.alloc (h : BlkM w g t cs) (o : Obj) : BlkM (w.alloc o) g t cs := by
  have hl := h.lt
  obtain ⟨m, hm, h⟩ := h
  exact ⟨m, hm, (Below.heap_alloc w o g hl).trans h⟩
theorem BlkM.drew (h : BlkM w g t cs) : BlkM w.drew g t cs := h
theorem BlkM.set_ (h : BlkM w g t cs) (i : Nat) (u : Value) : BlkM (w.setCell ⟨g, i, none⟩ u) g t (cs.set i u) := by
  obtain ⟨m, hm, h⟩ := h
  refine ⟨m, by simpa using hm, ?_⟩
  simp [World.setCell, Array.getElem?_modify, h]
theorem BlkM.below {B : Nat} (h : BlkM w g t cs) (hb : Below B w w') (hg : g < B) : BlkM w' g t cs := by
  obtain ⟨m, hm, h⟩ := h
  exact ⟨m, hm, (hb.block g hg).trans h⟩
theorem BlkM.stays (h : BlkM w g t cs) (hb : Below w.heap.size w w') : BlkM w' g t cs := h.below hb h.lt

/-- a value that is a row of these bytes, of the call's own from B on -/
def RowB (w : World) (B : Nat) (e : TypeId) (v : Value) (l : List UInt8) : Prop :=
  (v = .slice none 0 0 ∧ l = []) ∨ ∃ g cs, v = .slice (some ⟨g, 0, none⟩) l.length cs.length ∧ B ≤ g ∧ l.length ≤ cs.length ∧ BlkM w g e cs ∧ cs.take l.length = l.map u8
variable {B : Nat} {e : TypeId} {v : Value} {l : List UInt8}
theorem RowB.none_ : RowB w B e (.slice none 0 0) [] := .inl ⟨rfl, rfl⟩
theorem RowB.stays (h : RowB w B e v l) (hb : Below w.heap.size w w') : RowB w' B e v l := by
  rcases h with h | ⟨g, cs, hv, hB, hl, hk, ht⟩
  · exact .inl h
  · exact .inr ⟨g, cs, hv, hB, hl, hk.stays hb, ht⟩
theorem RowB.len (h : RowB w B e v l) : ∃ A c, v = .slice A l.length c := by
  rcases h with ⟨rfl, rfl⟩ | ⟨g, cs, rfl, -⟩ <;> exact ⟨_, _, rfl⟩
theorem take_at {cs : List Value} {l : List UInt8} (ht : cs.take l.length = l.map u8) {i : Nat} {x : UInt8} (hx : l[i]? = some x) : cs[i]? = some (u8 x) := by
  have hi : i < l.length := (List.getElem?_eq_some_iff.1 hx).1
  have : (cs.take l.length)[i]? = some (u8 x) := by rw [ht, List.getElem?_map, hx]; rfl
  rw [List.getElem?_take, if_pos hi] at this
  exact this

theorem take_set_last (cs : List Value) (n : Nat) (h : n < cs.length) (x : Value) : (cs.take (n + 1)).set n x = cs.take n ++ [x] := by
  have hl : (cs.take n).length = n := by simp; omega
  rw [List.take_add_one, List.getElem?_eq_getElem h]
  simp only [Option.toList_some]
  rw [List.set_append_right _ _ (by omega), hl, Nat.sub_self]
  rfl

variable {P : Program}
/-- '[]byte(s)' is such a row -/
theorem RowB.of_string (w : World) (src dst : TypeId) (l : List UInt8) (hs : P.underlying src = some .string) (hd : P.underlying dst = some (.slice e)) (he : P.underlying e = some (.int .u8)) :
    ∃ v W', (convert src dst (.string (bs l))).run P w = .ok v W' ∧ RowB W' w.heap.size e v l ∧ Below w.heap.size w W' := by
  refine ⟨_, _, run_bytes_of_string w src dst e (bs l) hs hd he, .inr ⟨w.heap.size, l.map u8 ++ zcells (grownCap w l.length 0 e - l.length), ?_, Nat.le_refl _, by simp, ?_, by simp⟩, ((Below.refl _ _).drew).alloc (Nat.le_refl _) _⟩
  · have := grownCap_ge w l.length 0 e
    rw [bs_size]
    simp [zcells_len]
    omega
  · refine ⟨((bytesRow (bs l) (grownCap w (bs l).size 0 e)).size, (bytesRow (bs l) (grownCap w (bs l).size 0 e)).size + 1), .inr ?_, ?_⟩
    · simp [bytesRow, zcells_len, bs_size]
    · rw [show (l.map u8 ++ zcells (grownCap w l.length 0 e - l.length)).toArray = bytesRow (bs l) (grownCap w (bs l).size 0 e) by
        apply Array.ext'
        simp [bytesRow, zcells, u8, bs_size]]
      exact heap_alloc_new w.drew _

/-- string(b[:n]) -/
theorem RowB.string (h : RowB w B e v l) (src dst : TypeId) (hs : P.underlying src = some (.slice e)) (he : P.underlying e = some (.int .u8)) (hd : P.underlying dst = some .string) :
    (convert src dst v).run P w = .ok (.string (bs l)) w := by
  rcases h with ⟨rfl, rfl⟩ | ⟨g, cs, rfl, hB, hl, hk, ht⟩
  · exact run_convert_bytes_nil w src e hs he 0 0 dst hd
  · rw [run_convert_bytes_arg (P := P) w src e hs he g 0 l.length cs.length (l.map fun b => (b.toNat : Int)) (by simp) (fun i hi => by
      rw [Nat.zero_add, hk.cell, take_at ht (List.getElem?_eq_getElem hi)]
      simp [u8, hi]) dst hd, strOf]
theorem RowB.prefix_ (h : RowB w B e v l) {n : Nat} (hn : n ≤ l.length) : ∃ A c, v = .slice A l.length c ∧ RowB w B e (.slice A n c) (l.take n) := by
  have hm : (l.take n).length = n := by simp; omega
  rcases h with ⟨rfl, rfl⟩ | ⟨g, cs, rfl, hB, hl, hk, ht⟩
  · obtain rfl : n = 0 := by simpa using hn
    exact ⟨none, 0, rfl, .inl ⟨rfl, rfl⟩⟩
  · refine ⟨_, _, rfl, .inr ⟨g, cs, by rw [hm], hB, by omega, hk, ?_⟩⟩
    rw [hm, List.map_take, ← ht, List.take_take, Nat.min_eq_left hn]

/-- a byte is stored into the row -/
theorem RowB.store (h : RowB w B e v l) {i : Nat} (hi : i < l.length) (x : UInt8) : ∃ g c, v = .slice (some ⟨g, 0, none⟩) l.length c ∧ l.length ≤ c ∧ B ≤ g ∧ (w.cell? ⟨g, i, none⟩ = some (u8 l[i])) ∧ w.frozen? ⟨g, i, none⟩ = false ∧ RowB (w.setCell ⟨g, i, none⟩ (u8 x)) B e v (l.set i x) := by
  rcases h with ⟨rfl, rfl⟩ | ⟨g, cs, rfl, hB, hl, hk, ht⟩
  · simp at hi
  · refine ⟨g, cs.length, rfl, hl, hB, ?_, hk.frozen (by omega), .inr ⟨g, cs.set i (u8 x), by simp, hB, by simpa using hl, hk.set_ i _, ?_⟩⟩
    · rw [hk.cell]; exact take_at ht (List.getElem?_eq_getElem hi)
    · rw [List.length_set, List.take_set, ht, List.map_set]

/-- 'append(b, x)': the one byte lies in a new row -/
theorem RowB.append (t ty : TypeId) (i : TypeInfo) (ht : P.underlying t = some (.slice e)) (hi : P.info? e = some i) (hz : i.zero = some (.int .u8 0)) (hsize : i.size = 1) (hby : i.bytes = 1)
    (h : RowB w B e v l) (hB : B ≤ w.heap.size) (x : UInt8) (hl : l.length ≤ 1000000000) :
    ∃ v' w', (Builtin.append_ #[t, t] ty #[v, .slice (some ⟨w.heap.size, 0, none⟩) 1 1]).run P (w.alloc (.cells #[u8 x] e)) = .ok v' w' ∧ (RowB w' B e v' (l ++ [x]) ∧ ∀ a, Below B a w → Below B a w') := by
  have hone : Blk (w.alloc (.cells #[u8 x] e)) w.heap.size e [u8 x] := Blk.new w e [u8 x]
  have hcell : ∀ j u, [u8 x][j]? = some u → (w.alloc (.cells #[u8 x] e)).cell? ((⟨w.heap.size, 0, none⟩ : Addr).add j) = some u := fun j u hu => by
    rw [show (⟨w.heap.size, 0, none⟩ : Addr).add j = ⟨w.heap.size, j, none⟩ by unfold Addr.add; split <;> simp_all, hone.cell, hu]
  have hs : (w.alloc (.cells #[u8 x] e)).heap.size = w.heap.size + 1 := by simp
  have hbel : ∀ a, Below B a w → Below B a (w.alloc (.cells #[u8 x] e)) := fun a h => h.alloc hB _
  have hsz : w.heap.size ≤ (w.alloc (.cells #[u8 x] e)).heap.size := by omega
  have hst : RowB (w.alloc (.cells #[u8 x] e)) B e v l := h.stays ((Below.refl _ _).alloc (Nat.le_refl _) _)
  generalize w.alloc (.cells #[u8 x] e) = w2 at *
  have grown : ∀ (old : Nat), RowB (w2.drew.alloc (.cells ((l.map u8 ++ [u8 x]).toArray ++ Builtin.zeroCells (Value.int .u8 0).cells (grownCap w2 (l.length + 1) old e - (l.length + 1))) e)) B e (.slice (some ⟨w2.heap.size, 0, none⟩) (l.length + 1) (grownCap w2 (l.length + 1) old e)) (l ++ [x]) := fun old => by
    have hge := grownCap_ge w2 (l.length + 1) old e
    refine .inr ⟨w2.heap.size, l.map u8 ++ [u8 x] ++ zcells (grownCap w2 (l.length + 1) old e - (l.length + 1)), ?_, by omega, by simp, Blk.marked ?_, ?_⟩
    · simp [zcells_len]; omega
    · rw [zeroCells_z]
      have := Blk.new w2.drew e (l.map u8 ++ [u8 x] ++ zcells (grownCap w2 (l.length + 1) old e - (l.length + 1)))
      simpa using this
    · rw [List.take_left' (by simp)]; simp
  rcases hst with ⟨rfl, rfl⟩ | ⟨g, cs, rfl, hg, hlc, hk, htk⟩
  · have hr := run_append_nil (P := P) w2 t ty e i (.int .u8 0) ht hi hz ⟨w.heap.size, 0, none⟩ 1 1 [u8 x] (by rw [hsize]; rfl) hcell (by omega) (by omega) (by rw [hby]; omega)
    exact ⟨_, _, hr, grown 0, fun a ha => ((hbel a ha).drew).alloc (by show B ≤ w2.heap.size; omega) _⟩
  · by_cases hroom : l.length + 1 ≤ cs.length
    · have hr := run_append_room_cells (P := P) (w := w2) t ty e i ht hi g 0 l.length cs.length ⟨w.heap.size, 0, none⟩ 1 1 [u8 x] (by rw [hsize]; rfl) hcell (by intro u hu; simp only [List.mem_cons, List.not_mem_nil, or_false] at hu; subst hu; rfl) hroom
        (fun j hj => by simp at hj; subst hj; rw [hsize, hk.cell, List.getElem?_eq_getElem (by omega)]; rfl)
        (fun j hj => by simp at hj; subst hj; rw [hsize]; exact hk.frozen (by omega))
      refine ⟨_, _, hr, .inr ⟨g, cs.set l.length (u8 x), by simp, hg, by simp; omega, ?_, ?_⟩, fun a ha => ?_⟩
      · rw [hsize, Nat.mul_one, Nat.zero_add]
        exact hk.set_ _ _
      · rw [List.length_append, List.length_singleton, List.map_append, ← htk, List.take_set]
        exact take_set_last cs l.length (by omega) (u8 x)
      · rw [hsize, Nat.mul_one, Nat.zero_add]
        exact (hbel a ha).setCell (p := ⟨g, l.length, none⟩) hg _
    · have hr := run_append_grow (P := P) w2 t ty e i (.int .u8 0) ht hi hz ⟨g, 0, none⟩ l.length cs.length (l.map u8) (by simp [hsize]) (fun j u hu => by
          rw [List.getElem?_map, Option.map_eq_some_iff] at hu
          obtain ⟨c, hc, rfl⟩ := hu
          rw [show (⟨g, 0, none⟩ : Addr).add j = ⟨g, j, none⟩ by unfold Addr.add; split <;> simp_all, hk.cell]
          exact take_at htk hc) ⟨w.heap.size, 0, none⟩ 1 1 [u8 x] (by rw [hsize]; rfl) hcell (by omega) (by omega) (by rw [hby]; exact growslice_fits (by omega) (by omega))
      rw [show (l.map u8).toArray ++ [u8 x].toArray = (l.map u8 ++ [u8 x]).toArray by simp] at hr
      exact ⟨_, _, hr, grown cs.length, fun a ha => ((hbel a ha).drew).alloc (by show B ≤ w2.heap.size; omega) _⟩
end
end Go.Proofs.YtgifmpobokaejaaGreatDoor


/-
  Layer 20 in plain words: what is written is read there, and all other bytes are as they were. Conditions as told.
-/
namespace Go.Proofs.YtgifmpobokaejaaGreatDoor

/-- bytes with a text in them -/
def nLaid (d : List UInt8) (k : Nat) (t : List UInt8) : List UInt8 := (nFill d (k + t.length)).take k ++ (t ++ (nFill d (k + t.length)).drop (k + t.length))
theorem nLaid_len (d : List UInt8) (k : Nat) (t : List UInt8) : (nLaid d k t).length = max d.length (k + t.length) := by
  have := nFill_len d (k + t.length)
  simp only [nLaid, List.length_append, List.length_take, List.length_drop]
  omega
theorem nLaid_read (d : List UInt8) (k : Nat) (t : List UInt8) (h : t.length ≤ 256) : (nRead (nLaid d k t) k t.length).1 = t := by
  have hl := nLaid_len d k t
  have hf := nFill_len d (k + t.length)
  have h1 : nFrom (nLaid d k t) k = k := by unfold nFrom; omega
  have h2 : nCount (nLaid d k t) k t.length = t.length := by unfold nCount; rw [h1]; omega
  show ((nLaid d k t).drop (nFrom (nLaid d k t) k)).take (nCount (nLaid d k t) k t.length) = t
  rw [h1, h2]
  unfold nLaid
  rw [List.drop_left' (by simp; omega), List.take_left' rfl]
theorem nFill_get (d : List UInt8) (n j : Nat) (h : j < (nFill d n).length) : (nFill d n)[j] = d.getD j 0 := by
  unfold nFill at h ⊢
  rw [List.getElem_append]
  split
  · simp [List.getD, *]
  · rw [List.getElem_replicate]
    simp [List.getD, List.getElem?_eq_none (show d.length ≤ j by omega)]
theorem nLaid_get (d : List UInt8) (k : Nat) (t : List UInt8) (j : Nat) (hj : j < (nLaid d k t).length) (h : j < k ∨ k + t.length ≤ j) : (nLaid d k t)[j] = d.getD j 0 := by
  have hl := nLaid_len d k t
  have hf := nFill_len d (k + t.length)
  have htk : ((nFill d (k + t.length)).take k).length = k := by simp; omega
  unfold nLaid at hj ⊢
  rw [List.getElem_append]
  split
  · rw [List.getElem_take, nFill_get]
  · rw [List.getElem_append]
    split
    · omega
    · rw [List.getElem_drop, nFill_get]
      congr 1
      omega
theorem nWrite_laid (d : List UInt8) (k : Nat) (t : List UInt8) (h1 : t ≠ []) (h2 : k + t.length ≤ 1024) : nWrite d k t = (nLaid d k t, 0) := by
  have h3 : ¬ ((1024 : Int) < k ∨ (1024 : Int) - k < t.length) := by omega
  simp [nWrite, h1, h3, nLaid]
end Go.Proofs.YtgifmpobokaejaaGreatDoor
