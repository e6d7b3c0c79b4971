/-
  A row of structs (or of other elements of some cells) of the call's own: how one is put behind it, and how it is read. Conditions: sizes.
-/
import Derived.Test.YtmkhpgpnahligaaP05
import Derived.Test.YtmkhpgpnahligaaP04
import Derived.Maps.AppendAt
import Derived.Deep.AppendLies
import Derived.Test.YtmkhpgpnahligaaP10
import Derived.Test.YtmkhpgpnahligaaP11
import Derived.BigGuardPart
namespace Go.Proofs.Ytmkhpgpnahligaa
open Go.RowKit

/-- v is a slice of these rows, each of sz cells, in blocks from B on -/
def RowS (w : World) (B : Nat) (e : TypeId) (sz : Nat) (v : Value) (rows : List (List Value)) : Prop :=
  (∀ r ∈ rows, r.length = sz) ∧ w.ownsRow B e sz v rows.length rows.flatten
section
variable {w w' : World} {B : Nat} {e : TypeId} {sz : Nat} {v : Value} {rows : List (List Value)}
theorem RowS.none_ : RowS w B e sz (.slice none 0 0) [] := ⟨by simp, World.ownsRow_nil _ _ _ _⟩
theorem RowS.at_ (h : RowS w B e sz v rows) : ∃ A c, v = .slice A rows.length c ∧ At w sz A rows := by
  obtain ⟨hl, hown⟩ := h
  have hlt := hown.lt
  have hcells := fun g hg => hown.cells (g := g) hg
  rcases hown.2 with ⟨rfl, h0⟩ | ⟨g, cap, cur, rfl, _⟩
  · refine ⟨none, 0, by rw [h0], ?_⟩
    rw [List.eq_nil_of_length_eq_zero h0]
    exact At.nil
  · refine ⟨_, _, rfl, fun i r hr => ⟨g, 0, rfl, (hlt g rfl).2, fun j u hu => ?_⟩⟩
    have := hcells g rfl (i * sz + j) u (flat_get rows hl i r hr j u hu)
    rw [Addr.add_mid, ← Nat.add_assoc] at this
    exact this
theorem RowS.stays (h : RowS w B e sz v rows) (hb : Below w.heap.size w w') : RowS w' B e sz v rows :=
  ⟨h.1, ownsRow_touch h.2 (Touch.of_below hb (fun _ => False)) fun _ _ hf => hf⟩
theorem RowS.touch {F : Nat → Prop} (h : RowS w B e sz v rows) (ht : Touch F w w') (hn : ∀ k, v.ownBlock = some k → ¬ F k) : RowS w' B e sz v rows :=
  ⟨h.1, ownsRow_touch h.2 ht hn⟩
theorem RowS.lt (h : RowS w B e sz v rows) : ∀ k, v.ownBlock = some k → B ≤ k ∧ k < w.heap.size := h.2.lt
theorem RowS.base {C : Nat} (h : RowS w B e sz v rows) (hC : C ≤ B) : RowS w C e sz v rows := ⟨h.1, h.2.1, by
  rcases h.2.2 with h | ⟨g, cap, cur, hv, hb, hr⟩
  · exact .inl h
  · exact .inr ⟨g, cap, cur, hv, Nat.le_trans hC hb, hr⟩⟩
theorem RowS.alloc (h : RowS w B e sz v rows) (o : Obj) : RowS (w.alloc o) B e sz v rows := h.stays ((Below.refl _ _).alloc (Nat.le_refl _) o)

variable {P : Program}
/-- 'append(l, x)': the one element lies in a new row -/
theorem RowS.append (t ty : TypeId) (i : TypeInfo) {z : Value} {bytes : Nat} (ht : P.underlying t = some (.slice e)) (hi : P.info? e = some i) (hz : i.zero = some z) (hsize : i.size = sz) (hby : i.bytes = bytes)
    (hzs : z.cells.size = sz) (h0 : 0 < sz) (hb : bytes ≤ 4096) (h : RowS w B e sz v rows) (hB : B ≤ w.heap.size) (r : List Value) (hr : r.length = sz) (h1 : ∀ u ∈ r, u.oneCell' = true) (hl : rows.length ≤ 1000000000) :
    ∃ v' w', (Builtin.append_ #[t, t] ty #[v, .slice (some ⟨w.heap.size, 0, none⟩) 1 1]).run P (w.alloc (.cells r.toArray e)) = .ok v' w' ∧
      (RowS w' B e sz v' (rows ++ [r]) ∧ ∀ a, Below B a w → Below B a w') := by
  have hone : Blk (w.alloc (.cells r.toArray e)) w.heap.size e r := Blk.new w e r
  have hcell : ∀ j u, r[j]? = some u → (w.alloc (.cells r.toArray e)).cell? ((⟨w.heap.size, 0, none⟩ : Addr).add j) = some u := fun j u hu => by
    rw [Addr.add_mid, Nat.zero_add, hone.cell, hu]
  obtain ⟨v', w', hrun, hown, hgrow, _, hat⟩ := run_append_own_at (P := P) (w := w.alloc (.cells r.toArray e)) B t ty e i z sz bytes ht hi hz hsize hby hzs h0 v rows.length rows.flatten (h.2.alloc _) ⟨w.heap.size, 0, none⟩ 1 1 r
    (by simpa using hr) hcell h1 (by unfold maxLen; omega) (Nat.le_trans (Nat.mul_le_mul (show rows.length + 1 ≤ 1000000001 by omega) hb) (by omega)) (by simp; omega)
  refine ⟨v', w', hrun, ⟨fun q hq => ?_, ?_⟩, fun a ha => ?_⟩
  · rcases List.mem_append.1 hq with hq | hq
    · exact h.1 q hq
    · simp at hq; subst hq; exact hr
  · rw [List.length_append, List.flatten_append]
    simpa using hown
  · exact (ha.alloc hB _).grown hgrow (by simp; omega) fun k hk => (h.2.lt k hk).1
end
end Go.Proofs.Ytmkhpgpnahligaa

/-
  Layer 8, walks: lists are the same. Conditions: machine lists.
-/
namespace Go.Proofs.Ytmkhpgpnahligaa
open Go.RowKit
attribute [local go_sem ↓] Go.wp_at_zero Go.wp_at_succ
attribute [local go_sem] rowAt_ptr rowOf_drew rowOf_drewN rowOf_alloc_past rowOf_new
theorem ldEntry {ρ : Operand → Value} {w : World} {dst : Option Tmp} {ty : TypeId} {pos : String} {after : Array Edge} {g : Option (Nat × Bool)} {x : Operand} (h : (rowAt w 15 (ρ x)).isSome = true) :
    (execOp ρ ⟨dst, .load 35 x, ty, pos, after, g⟩).run Try.prog w = .ok (.value (.agg ((rowAt w 15 (ρ x)).getD #[]))) w := ex_load 35 15 Try.underlying35 rfl (by kernel_rfl) h
attribute [local go_sem ↓] ldEntry

theorem guardEntry : Try.prog.eqGuardType Try.prog.depth 35 = false := by kernel_rfl
def lfEntry : List Leaf := [.i .i64, .s, .i .i64] ++ lfPost8 ++ [.s]
theorem leafsEntry : leafs Try.prog 8 35 = some lfEntry := by kernel_rfl
theorem Entry.inj8 {x y : Entry} (h : x.vals = y.vals) : x = y := by
  obtain ⟨_, _, _, ⟨_, ⟨_, _, _, _, _, _, _, _, _, _⟩⟩, _⟩ := x
  obtain ⟨_, _, _, ⟨_, ⟨_, _, _, _, _, _, _, _, _, _⟩⟩, _⟩ := y
  simp only [Entry.vals, Post.vals, Attr.vals, List.cons_append, List.nil_append, List.cons.injEq, Value.int.injEq, Value.bool.injEq, Value.string.injEq, true_and, and_true] at h
  obtain ⟨h0, h1, h2, h3, h4, h5, h6, h7, h8, h9, h10, h11, h12, h13, h14⟩ := h
  have h1 := bs_inj h1
  have h14 := bs_inj h14
  subst_vars
  rfl
theorem neqEntry (x y : Entry) (w : World) : (binOp .neq 35 (.agg x.vals.toArray) (.agg y.vals.toArray)).run Try.prog w = .ok (.bool (decide (x ≠ y))) w := by
  by_cases h : x = y
  · rw [neq_same leafsEntry (by kernel_rfl) w _ _ (by rfl) (by rw [h]), decide_eq_false (by simpa using h)]
  · rw [neq_other leafsEntry (by kernel_rfl) w _ _ (by rfl) (by rfl) (fun e => h (Entry.inj8 e)), decide_eq_true h]
attribute [local go_sem ↓] neqEntry

attribute [local go_sem] guardEntry

def int1 (n : Int) : List Value := [.int .i64 n]

theorem rowCell8 {α : Type} {w : World} {sz : Nat} {A : Option Addr} {l : List α} {vals : α → List Value} (hsz : ∀ x, (vals x).length = sz) (h0 : 0 < sz) (hA : At w sz A (l.map vals)) {k : Nat} (hk : k < l.length) :
    ∃ b off, A = some ⟨b, off, none⟩ ∧ b < w.heap.size ∧ rowOf w b (off + k * sz) sz = some (vals l[k]).toArray ∧ ∀ j u, (vals l[k])[j]? = some u → w.cell? ⟨b, off + k * sz + j, none⟩ = some u := by
  obtain ⟨b, off, rfl, hb, hc⟩ := hA.getD (k := k) (by simpa using hk)
  have hc2 : ∀ j u, (vals l[k])[j]? = some u → w.cell? ⟨b, off + k * sz + j, none⟩ = some u := fun j u hu => hc j u (by simpa using hu)
  exact ⟨b, off, rfl, hb, rowOf_of hc2 (hsz _) h0, hc2⟩
theorem takeSame8 {α : Type} {l m : List α} {k : Nat} (h : l.take k = m.take k) (hk : k < l.length) (hm : k < m.length) (he : l[k] = m[k]) : l.take (k + 1) = m.take (k + 1) := by
  rw [take_next _ _ hk, take_next _ _ hm, h, he]

set_option maxHeartbeats 1600000 in
theorem equalE_any (A B : Option Addr) (c d : Nat) (l m : List Entry) (w : World) (hl : l.length ≤ 9223372036854775807) (hm : m.length ≤ 9223372036854775807) (hA : At w 15 A (l.map Entry.vals)) (hB : At w 15 B (m.map Entry.vals)) :
    Calls Try.prog 32 #[.slice A l.length c, .slice B m.length d] w fun e w' => e = .returned (.bool (decide (l = m))) ∧ Below w.heap.size w w' := by
  by_cases hlm : l.length = m.length
  · have hne : ((l.length : Int) != (m.length : Int)) = false := by simp [hlm]
    go_enter Try.func32, Try.ntmps32
    go_wp2
    go_loopw [13] (fun i wr => ∃ k : Nat, k ≤ l.length ∧ i = .int .i64 k ∧ l.take k = m.take k ∧ Below w.heap.size w wr) (fun i _ => l.length - (intOf i).toNat)
    case atStart => exact ⟨0, Nat.zero_le _, rfl, rfl, Below.refl _ _⟩
    case round =>
      obtain ⟨k, hk, rfl, ht, hb⟩ := hrel
      by_cases hlt : k < l.length
      · have hltm : k < m.length := by omega
        obtain ⟨b1, o1, rfl, hb1, r1, -⟩ := rowCell8 Entry.len (by omega) (hA.below hb) hlt
        obtain ⟨b2, o2, rfl, hb2, r2, -⟩ := rowCell8 Entry.len (by omega) (hB.below hb) hltm
        have hk0 : (0 : Int) ≤ (k : Int) := Int.natCast_nonneg _
        have hk1 : (k : Int) < (l.length : Int) := by omega
        have hk2 : (k : Int) < (m.length : Int) := by omega
        have HT := Lib.hid (fun h => takeSame8 ht hlt hltm h)
        have HN := Lib.hid (show l[k] ≠ m[k] → l ≠ m from fun h e => h (by subst e; rfl))
        clear ht hA hB
        by_cases he : l[k] = m[k]
        · have hd : decide (l[k] ≠ m[k]) = false := decide_eq_false (by simpa using he)
          have HS := Lib.hid (HT.out he)
          clear he HT HN
          go_wp2_with fail
          go_region_held3 (fun W => Stb wr W) (first | exact Stb.start | assumption) (first | fail)
          go_wp2
          go_roundw
          case rel => exact ⟨k + 1, by omega, by go_num, HS.out, bdN hb _⟩
          case measure => simp [intOf]; omega
        · have hd : decide (l[k] ≠ m[k]) = true := decide_eq_true he
          have HS := Lib.hid (HN.out he)
          clear he HT HN
          go_wp2_with fail
          go_region_held3 (fun W => Stb wr W) (first | exact Stb.start | assumption) (first | fail)
          go_wp2
          go_ret
          exact ⟨ret_bool (by rw [decide_eq_false HS.out]), bdN hb _⟩
      · have HS := Lib.hid (show l = m by
          have h1 : k = l.length := by omega
          rw [h1, List.take_length, hlm, List.take_length] at ht
          exact ht)
        clear ht hA hB
        go_wp2
        go_ret
        exact ⟨ret_bool (by rw [decide_eq_true HS.out]), hb⟩
  · have hne : ((l.length : Int) != (m.length : Int)) = true := by simp; omega
    have HS := Lib.hid (show l ≠ m from fun e => hlm (by rw [e]))
    clear hlm
    go_enter Try.func32, Try.ntmps32
    go_wp2
    go_ret
    exact ⟨ret_bool (by rw [decide_eq_false HS.out]), Below.refl _ _⟩

set_option maxHeartbeats 1600000 in
theorem equalI_any (A B : Option Addr) (c d : Nat) (l m : List Int) (w : World) (hl : l.length ≤ 9223372036854775807) (hm : m.length ≤ 9223372036854775807) (hA : At w 1 A (l.map int1)) (hB : At w 1 B (m.map int1)) :
    Calls Try.prog 33 #[.slice A l.length c, .slice B m.length d] w fun e w' => e = .returned (.bool (decide (l = m))) ∧ Below w.heap.size w w' := by
  by_cases hlm : l.length = m.length
  · have hne : ((l.length : Int) != (m.length : Int)) = false := by simp [hlm]
    go_enter Try.func33, Try.ntmps33
    go_wp2
    go_loopw [13] (fun i wr => ∃ k : Nat, k ≤ l.length ∧ i = .int .i64 k ∧ l.take k = m.take k ∧ Below w.heap.size w wr) (fun i _ => l.length - (intOf i).toNat)
    case atStart => exact ⟨0, Nat.zero_le _, rfl, rfl, Below.refl _ _⟩
    case round =>
      obtain ⟨k, hk, rfl, ht, hb⟩ := hrel
      by_cases hlt : k < l.length
      · have hltm : k < m.length := by omega
        obtain ⟨b1, o1, rfl, hb1, -, c1⟩ := rowCell8 (vals := int1) (sz := 1) (fun _ => rfl) (by omega) (hA.below hb) hlt
        obtain ⟨b2, o2, rfl, hb2, -, c2⟩ := rowCell8 (vals := int1) (sz := 1) (fun _ => rfl) (by omega) (hB.below hb) hltm
        have c1 := c1 0 (.int .i64 l[k]) rfl
        have c2 := c2 0 (.int .i64 m[k]) rfl
        rw [Nat.add_zero, Nat.mul_one] at c1 c2
        have hk0 : (0 : Int) ≤ (k : Int) := Int.natCast_nonneg _
        have hk1 : (k : Int) < (l.length : Int) := by omega
        have hk2 : (k : Int) < (m.length : Int) := by omega
        have HT := Lib.hid (fun h => takeSame8 ht hlt hltm h)
        have HN := Lib.hid (show l[k] ≠ m[k] → l ≠ m from fun h e => h (by subst e; rfl))
        clear ht hA hB
        by_cases he : l[k] = m[k]
        · have hd : (l[k] != m[k]) = false := by simpa using he
          have HS := Lib.hid (HT.out he)
          clear he HT HN
          generalize l[k] = x at *
          generalize m[k] = y at *
          go_wp2_with fail
          go_region_held3 (fun W => Stb wr W) (first | exact Stb.start | assumption) (first | fail)
          go_wp2
          go_roundw
          case rel => exact ⟨k + 1, by omega, by go_num, HS.out, bdN hb _⟩
          case measure => simp [intOf]; omega
        · have hd : (l[k] != m[k]) = true := by simpa using he
          have HS := Lib.hid (HN.out he)
          clear he HT HN
          generalize l[k] = x at *
          generalize m[k] = y at *
          go_wp2_with fail
          go_region_held3 (fun W => Stb wr W) (first | exact Stb.start | assumption) (first | fail)
          go_wp2
          go_ret
          exact ⟨ret_bool (by rw [decide_eq_false HS.out]), bdN hb _⟩
      · have HS := Lib.hid (show l = m by
          have h1 : k = l.length := by omega
          rw [h1, List.take_length, hlm, List.take_length] at ht
          exact ht)
        clear ht hA hB
        go_wp2
        go_ret
        exact ⟨ret_bool (by rw [decide_eq_true HS.out]), hb⟩
  · have hne : ((l.length : Int) != (m.length : Int)) = true := by simp; omega
    have HS := Lib.hid (show l ≠ m from fun e => hlm (by rw [e]))
    clear hlm
    go_enter Try.func33, Try.ntmps33
    go_wp2
    go_ret
    exact ⟨ret_bool (by rw [decide_eq_false HS.out]), Below.refl _ _⟩
end Go.Proofs.Ytmkhpgpnahligaa


/-
  Layer 20, walks: is an entry's Cookie at most one; slices.IndexFunc with that. Conditions: machine lists.
-/
namespace Go.Proofs.Ytmkhpgpnahligaa
open Go.RowKit
attribute [local go_sem ↓] Go.wp_at_zero Go.wp_at_succ
attribute [local go_sem] rowAt_ptr rowOf_drew rowOf_drewN rowOf_alloc_past rowOf_new
attribute [local go_sem ↓] ldEntry

attribute [local go_sem] Entry.at0 Entry.lat0 Entry.at1 Entry.lat1 Entry.at2 Entry.lat2 Entry.at3 Entry.lat3 Entry.at4 Entry.lat4 Entry.at5 Entry.lat5 Entry.at6 Entry.lat6 Entry.at7 Entry.lat7 Entry.at8 Entry.lat8 Entry.at9 Entry.lat9 Entry.at10 Entry.lat10 Entry.at11 Entry.lat11 Entry.at12 Entry.lat12 Entry.at13 Entry.lat13 Entry.at14 Entry.lat14 Entry.sub0_15 Entry.lsub0_15 Entry.sub3_11 Entry.lsub3_11 Entry.sub4_10 Entry.lsub4_10 Entry.len

theorem callPage1 (args : Array Value) (w : World) : (callFunc 26 args).run Try.prog w = .ok (.enter 26 args) w := by kernel_rfl

theorem page1_any (x : Entry) (b : Nat) (ck : Int) (w : World) (hc : w.cell? ⟨b, 0, none⟩ = some (.int .i64 ck)) :
    Calls Try.prog 26 #[.agg x.vals.toArray, .pointer (some ⟨b, 0, none⟩)] w fun e w' => e = .returned (.bool (decide (x.cookie ≤ ck))) ∧ Below w.heap.size w w' := by
  have hX := Blk.new w 35 x.vals
  have hB : Below w.heap.size w (w.alloc (.cells x.vals.toArray 35)) := (Below.refl _ _).alloc (Nat.le_refl _) _
  have hlt := World.block_lt_of_cell? w _ hc
  have hc1 := (hB.cell (p := ⟨b, 0, none⟩) hlt).trans hc
  have hx := hX.cell
  clear hc
  go_enter Try.func26, Try.ntmps26
  go_wp2
  go_ret
  exact ⟨rfl, hB⟩

/-- the first entry whose Cookie is at most that -/
def firstLe (ck : Int) (l : List Entry) : Nat := l.findIdx fun x => decide (x.cookie ≤ ck)
/-- its place; -1: there is none -/
def foundLe (ck : Int) (l : List Entry) : Int := if firstLe ck l < l.length then (firstLe ck l : Int) else -1

set_option maxRecDepth 20000 in
set_option maxHeartbeats 1600000 in
theorem indexLe_any (A : Option Addr) (c : Nat) (l : List Entry) (b : Nat) (ck : Int) (w : World) (hl : l.length ≤ 9223372036854775807) (hA : At w 15 A (l.map Entry.vals)) (hc : w.cell? ⟨b, 0, none⟩ = some (.int .i64 ck)) :
    Calls Try.prog 36 #[.slice A l.length c, .func (.func 26) #[] #[.pointer (some ⟨b, 0, none⟩)]] w fun e w' =>
      e = .returned (.int .i64 (foundLe ck l)) ∧ Below w.heap.size w w' := by
  have hcf := callPage1
  have hlt := World.block_lt_of_cell? w _ hc
  go_enter Try.func36, Try.ntmps36
  go_wp2
  go_loopw [8] (fun i wr => ∃ k : Nat, k ≤ l.length ∧ i = .int .i64 k ∧ (∀ (j : Nat) (hj : j < l.length), j < k → decide (l[j].cookie ≤ ck) = false) ∧ Below w.heap.size w wr) (fun i _ => l.length - (intOf i).toNat)
  case atStart => exact ⟨0, Nat.zero_le _, rfl, fun _ _ h => absurd h (Nat.not_lt_zero _), Below.refl _ _⟩
  case round =>
    obtain ⟨k, hk, rfl, hno, hb⟩ := hrel
    by_cases hlk : k < l.length
    · obtain ⟨b1, o1, rfl, hb1, r1, -⟩ := rowCell8 Entry.len (by omega) (hA.below hb) hlk
      have hcw := (hb.cell (p := ⟨b, 0, none⟩) hlt).trans hc
      have hk0 : (0 : Int) ≤ (k : Int) := Int.natCast_nonneg _
      have hk1 : (k : Int) < (l.length : Int) := by omega
      have HP := Lib.hid (page1_any l[k] b ck wr hcw)
      have HN := Lib.hid hno
      have HB := Lib.hid hb
      have HA := Lib.hid hA
      clear hno hb hA
      go_wp2_with fail
      refine HP.out.mono ?_
      rintro e w2 ⟨rfl, hb2⟩
      have HB2 := Lib.hid (below_then HB.out hb2)
      cases hd : decide (l[k].cookie ≤ ck) with
      | true =>
        have hf : firstLe ck l = k := by
          unfold firstLe
          rw [List.findIdx_eq hlk]
          exact ⟨hd, fun j hj => by simpa using HN.out j (by omega) hj⟩
        have HF := Lib.hid (show (k : Int) = foundLe ck l by unfold foundLe; rw [hf, if_pos hlk])
        clear hf hd
        go_wp2
        go_ret
        exact ⟨ret_int HF.out, HB2.out⟩
      | false =>
        have HN2 := Lib.hid (show ∀ (j : Nat) (hj : j < l.length), j < k + 1 → decide (l[j].cookie ≤ ck) = false from fun j hj h => by
          rcases Nat.lt_or_ge j k with h1 | h1
          · exact HN.out j hj h1
          · obtain rfl : j = k := by omega
            exact hd)
        clear hd
        go_wp2
        go_roundw
        case rel => exact ⟨k + 1, by omega, by go_num, HN2.out, HB2.out⟩
        case measure => simp [intOf]; omega
    · have hf : ¬ firstLe ck l < l.length := by
        unfold firstLe
        intro h
        have h1 := List.findIdx_getElem (w := h)
        have h2 := hno _ h (by omega)
        rw [h1] at h2
        cases h2
      have hk1 : ¬ (k : Int) < (l.length : Int) := by omega
      have HF := Lib.hid (show (-1 : Int) = foundLe ck l by unfold foundLe; rw [if_neg hf])
      clear hno hf
      go_wp2
      go_ret
      exact ⟨ret_int HF.out, hb⟩
end Go.Proofs.Ytmkhpgpnahligaa
