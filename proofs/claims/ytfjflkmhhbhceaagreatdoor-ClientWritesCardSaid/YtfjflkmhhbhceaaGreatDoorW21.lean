/-
  Layer 8, walks: what must come of fixed calls; the law ReplyFields. No condition.
-/
import Derived.Test.YtfjflkmhhbhceaaGreatDoorW20
import Derived.Test.YtfjflkmhhbhceaaGreatDoorW07
import Derived.Test.YtfjflkmhhbhceaaGreatDoorW12
import Derived.Test.YtfjflkmhhbhceaaGreatDoorW04
import Derived.Test.YtfjflkmhhbhceaaGreatDoorW09
import Derived.Test.YtfjflkmhhbhceaaGreatDoorW03
import Derived.Lib.SliceRun
import Derived.Test.YtfjflkmhhbhceaaGreatDoorW10
import Derived.Test.YtfjflkmhhbhceaaGreatDoorW15
namespace Go.Proofs.YtfjflkmhhbhceaaGreatDoor
open Go.RowKit
end Go.Proofs.YtfjflkmhhbhceaaGreatDoor

/-
  Layer 8, walks: what must come of fixed calls; the law ReplyFields. No condition.
-/
namespace Go.Proofs.YtfjflkmhhbhceaaGreatDoor
open Go.RowKit
end Go.Proofs.YtfjflkmhhbhceaaGreatDoor


/-
  Layer 8, walks: lists are the same. Conditions: machine lists.
-/
namespace Go.Proofs.YtfjflkmhhbhceaaGreatDoor
open Go.RowKit
attribute [local go_sem ↓] Go.wp_at_zero Go.wp_at_succ
attribute [local go_sem] rowAt_ptr rowOf_drew rowOf_drewN rowOf_alloc_past rowOf_new
theorem ldEntry {ρ : Operand → Value} {w : World} {dst : Option Tmp} {ty : TypeId} {pos : String} {after : Array Edge} {g : Option (Nat × Bool)} {x : Operand} (h : (rowAt w 15 (ρ x)).isSome = true) :
    (execOp ρ ⟨dst, .load 126 x, ty, pos, after, g⟩).run Tryz.prog w = .ok (.value (.agg ((rowAt w 15 (ρ x)).getD #[]))) w := ex_load 126 15 Tryz.underlying126 rfl (by kernel_rfl) h
attribute [local go_sem ↓] ldEntry

theorem guardEntry : Tryz.prog.eqGuardType Tryz.prog.depth 126 = false := by kernel_rfl
def lfEntry : List Leaf := [.i .i64, .s, .i .i64] ++ lfPost8 ++ [.s]
theorem leafsEntry : leafs Tryz.prog 8 126 = some lfEntry := by kernel_rfl
theorem Entry.inj8 {x y : Entry} (h : x.vals = y.vals) : x = y := by
  obtain ⟨_, _, _, ⟨_, ⟨_, _, _, _, _, _, _, _, _, _⟩⟩, _⟩ := x
  obtain ⟨_, _, _, ⟨_, ⟨_, _, _, _, _, _, _, _, _, _⟩⟩, _⟩ := y
  simp only [Entry.vals, Post.vals, Attr.vals, List.cons_append, List.nil_append, List.cons.injEq, Value.int.injEq, Value.bool.injEq, Value.string.injEq, true_and, and_true] at h
  obtain ⟨h0, h1, h2, h3, h4, h5, h6, h7, h8, h9, h10, h11, h12, h13, h14⟩ := h
  have h1 := bs_inj h1
  have h14 := bs_inj h14
  subst_vars
  rfl
theorem neqEntry (x y : Entry) (w : World) : (binOp .neq 126 (.agg x.vals.toArray) (.agg y.vals.toArray)).run Tryz.prog w = .ok (.bool (decide (x ≠ y))) w := by
  by_cases h : x = y
  · rw [neq_same leafsEntry (by kernel_rfl) w _ _ (by rfl) (by rw [h]), decide_eq_false (by simpa using h)]
  · rw [neq_other leafsEntry (by kernel_rfl) w _ _ (by rfl) (by rfl) (fun e => h (Entry.inj8 e)), decide_eq_true h]
attribute [local go_sem ↓] neqEntry

attribute [local go_sem] guardEntry

def int1 (n : Int) : List Value := [.int .i64 n]

theorem rowCell8 {α : Type} {w : World} {sz : Nat} {A : Option Addr} {l : List α} {vals : α → List Value} (hsz : ∀ x, (vals x).length = sz) (h0 : 0 < sz) (hA : At w sz A (l.map vals)) {k : Nat} (hk : k < l.length) :
    ∃ b off, A = some ⟨b, off, none⟩ ∧ b < w.heap.size ∧ rowOf w b (off + k * sz) sz = some (vals l[k]).toArray ∧ ∀ j u, (vals l[k])[j]? = some u → w.cell? ⟨b, off + k * sz + j, none⟩ = some u := by
  obtain ⟨b, off, rfl, hb, hc⟩ := hA.getD (k := k) (by simpa using hk)
  have hc2 : ∀ j u, (vals l[k])[j]? = some u → w.cell? ⟨b, off + k * sz + j, none⟩ = some u := fun j u hu => hc j u (by simpa using hu)
  exact ⟨b, off, rfl, hb, rowOf_of hc2 (hsz _) h0, hc2⟩
end Go.Proofs.YtfjflkmhhbhceaaGreatDoor


/-
  slices.Clone of entries and of ints: a row of the call's own with the same elements. Conditions: lengths.
-/
namespace Go.Proofs.YtfjflkmhhbhceaaGreatDoor
open Go.RowKit
attribute [local go_sem ↓] Go.wp_at_zero Go.wp_at_succ
attribute [local go_sem] rowAt_ptr rowOf_drew rowOf_drewN rowOf_alloc_past rowOf_new
theorem infoEntryB : (Tryz.prog.info? 126).map (fun i => (i.zero, i.size, i.bytes)) = some (some (.agg (Entry.mk 0 [] 0 postZ8 []).vals.toArray), 15, 136) := by kernel_rfl
theorem infoIntB : (Tryz.prog.info? 3).map (fun i => (i.zero, i.size, i.bytes)) = some (some (.int .i64 0), 1, 8) := by kernel_rfl

theorem flat_len {sz : Nat} : ∀ (rows : List (List Value)), (∀ r ∈ rows, r.length = sz) → rows.flatten.length = rows.length * sz
  | [], _ => by simp
  | r :: rows, h => by
    rw [List.flatten_cons, List.length_append, h r (by simp), flat_len rows (fun q hq => h q (List.mem_cons_of_mem _ hq)), List.length_cons, Nat.succ_mul]
    omega
/-- the cells of rows that lie somewhere, as one list -/
theorem At.flat {w : World} {sz : Nat} {A : Addr} {rows : List (List Value)} (h : At w sz (some A) rows) (hl : ∀ r ∈ rows, r.length = sz) (h0 : 0 < sz) : ∀ j u, rows.flatten[j]? = some u → w.cell? (A.add j) = some u := by
  intro j u hj
  have hlen : rows.flatten.length = rows.length * sz := by
    have := flat_len rows hl
    exact this
  have hj2 := (List.getElem?_eq_some_iff.1 hj).1
  rw [hlen] at hj2
  have hq : j / sz < rows.length := (Nat.div_lt_iff_lt_mul h0).2 hj2
  obtain ⟨b, off, hA, hb, hc⟩ := h.getD hq
  have hdm : j / sz * sz + j % sz = j := Nat.div_add_mod' j sz
  have hm : j % sz < sz := Nat.mod_lt _ h0
  have hrl := hl _ (List.getElem_mem hq)
  have hg := flat_get rows hl (j / sz) _ (List.getElem?_eq_getElem hq) (j % sz) _ (List.getElem?_eq_getElem (by omega))
  rw [hdm] at hg
  rw [hg] at hj
  cases hj
  have := hc (j % sz) _ (List.getElem?_eq_getElem (by omega))
  injection hA with hA
  subst hA
  rw [Addr.add_mid, show off + j = off + j / sz * sz + j % sz by omega]
  exact this

set_option maxRecDepth 20000 in
set_option maxHeartbeats 800000 in
theorem cloneE_any (A : Option Addr) (c : Nat) (l : List Entry) (w : World) (hl : l.length ≤ 1000000) (hA : At w 15 A (l.map Entry.vals)) :
    Calls Tryz.prog 107 #[.slice A l.length c] w fun e w' => ∃ v, e = .returned v ∧ RowS w' w.heap.size 126 15 v (l.map Entry.vals) ∧ Below w.heap.size w w' := by
  obtain ⟨i0, hi, hz, hsize, hby⟩ := info_parts infoEntryB
  have q22 : ∀ (w : World) (a : Option Addr) (n c n' c' : Nat), (binOp .eql 48 (.slice a n c) (.slice none n' c')).run Tryz.prog w = .ok (.bool a.isNone) w := fun w a n c n' c' => Lib.run_eql_slice_nil w _ _ a n c n' c' Tryz.underlying48
  have hlen : ∀ r ∈ l.map Entry.vals, r.length = 15 := by
    intro r hr; obtain ⟨x, _, rfl⟩ := List.mem_map.1 hr; rfl
  cases A with
  | none =>
    have h0 : l = [] := by
      cases l with
      | nil => rfl
      | cons x l => obtain ⟨b, off, h, _⟩ := hA 0 x.vals (by simp); cases h
    subst h0
    go_enter Tryz.func107, Tryz.ntmps107
    go_wp2
    go_ret
    exact ⟨_, rfl, RowS.none_, Below.refl _ _⟩
  | some A =>
    have hcell := hA.flat hlen (by omega)
    have hfl := flat_len _ hlen
    rw [List.length_map] at hfl
    have H := Lib.hid (And.intro hcell (And.intro hlen hfl))
    clear hcell hlen hfl hA
    go_enter Tryz.func107, Tryz.ntmps107
    go_wp2_with (at_builtin; refine wpList_append_own _ rfl _ _ 48 rfl w.heap.size 126 i0 (.agg (Entry.mk 0 [] 0 postZ8 []).vals.toArray) 15 136 Tryz.underlying48 hi hz hsize hby rfl (by decide) _ _ _ rfl (World.ownsRow_made w #[] 0 (Nat.le_refl _) (Nat.zero_le _) rfl) A l.length c (l.map Entry.vals).flatten rfl ?qc1 ?qc2 ?qc3 ?qc4 ?qc5 ?qc6 ?_)
    case qc1 => exact H.out.2.2
    case qc2 => exact fun j u hj => Lib.cell?_alloc_some _ (H.out.1 j u hj)
    case qc3 =>
      intro u hu
      obtain ⟨r, hr, hu⟩ := List.mem_flatten.1 hu
      obtain ⟨x, _, rfl⟩ := List.mem_map.1 hr
      exact x.one u hu
    case qc4 => unfold maxLen; omega
    case qc5 => omega
    case qc6 => simp
    intro v' w1 hown hgrow hnil
    go_wp2
    go_ret
    refine ⟨v', rfl, ⟨H.out.2.1, ?_⟩, ?_⟩
    · rw [List.length_map]
      simpa using hown
    · exact ((Below.refl _ w).alloc (Nat.le_refl _) _).grown hgrow (by simp) (by intro k hk; simp [Value.ownBlock] at hk; omega)

set_option maxRecDepth 20000 in
set_option maxHeartbeats 800000 in
theorem cloneI_any (A : Option Addr) (c : Nat) (l : List Int) (w : World) (hl : l.length ≤ 1000000) (hA : At w 1 A (l.map int1)) :
    Calls Tryz.prog 108 #[.slice A l.length c] w fun e w' => ∃ v, e = .returned v ∧ RowS w' w.heap.size 3 1 v (l.map int1) ∧ Below w.heap.size w w' := by
  obtain ⟨i0, hi, hz, hsize, hby⟩ := info_parts infoIntB
  have q22 : ∀ (w : World) (a : Option Addr) (n c n' c' : Nat), (binOp .eql 49 (.slice a n c) (.slice none n' c')).run Tryz.prog w = .ok (.bool a.isNone) w := fun w a n c n' c' => Lib.run_eql_slice_nil w _ _ a n c n' c' Tryz.underlying49
  have hlen : ∀ r ∈ l.map int1, r.length = 1 := by
    intro r hr; obtain ⟨x, _, rfl⟩ := List.mem_map.1 hr; rfl
  cases A with
  | none =>
    have h0 : l = [] := by
      cases l with
      | nil => rfl
      | cons x l => obtain ⟨b, off, h, _⟩ := hA 0 (int1 x) (by simp); cases h
    subst h0
    go_enter Tryz.func108, Tryz.ntmps108
    go_wp2
    go_ret
    exact ⟨_, rfl, RowS.none_, Below.refl _ _⟩
  | some A =>
    have hcell := hA.flat hlen (by omega)
    have hfl := flat_len _ hlen
    rw [List.length_map] at hfl
    have H := Lib.hid (And.intro hcell (And.intro hlen hfl))
    clear hcell hlen hfl hA
    go_enter Tryz.func108, Tryz.ntmps108
    go_wp2_with (at_builtin; refine wpList_append_own _ rfl _ _ 49 rfl w.heap.size 3 i0 (.int .i64 0) 1 8 Tryz.underlying49 hi hz hsize hby rfl (by decide) _ _ _ rfl (World.ownsRow_made w #[] 0 (Nat.le_refl _) (Nat.zero_le _) rfl) A l.length c (l.map int1).flatten rfl ?qc1 ?qc2 ?qc3 ?qc4 ?qc5 ?qc6 ?_)
    case qc1 => exact H.out.2.2
    case qc2 => exact fun j u hj => Lib.cell?_alloc_some _ (H.out.1 j u hj)
    case qc3 =>
      intro u hu
      obtain ⟨r, hr, hu⟩ := List.mem_flatten.1 hu
      obtain ⟨x, _, rfl⟩ := List.mem_map.1 hr
      simp [int1] at hu
      subst hu
      rfl
    case qc4 => unfold maxLen; omega
    case qc5 => omega
    case qc6 => simp
    intro v' w1 hown hgrow hnil
    go_wp2
    go_ret
    refine ⟨v', rfl, ⟨H.out.2.1, ?_⟩, ?_⟩
    · rw [List.length_map]
      simpa using hown
    · exact ((Below.refl _ w).alloc (Nat.le_refl _) _).grown hgrow (by simp) (by intro k hk; simp [Value.ownBlock] at hk; omega)
theorem cloneE_at (A : Option Addr) (c : Nat) (l : List Entry) (w : World) (hl : l.length ≤ 1000000) (hA : At w 15 A (l.map Entry.vals)) :
    Calls Tryz.prog 107 #[.slice A l.length c] w fun e w' => ∃ A' c', e = .returned (.slice A' l.length c') ∧ RowS w' w.heap.size 126 15 (.slice A' l.length c') (l.map Entry.vals) ∧ Below w.heap.size w w' := by
  refine (cloneE_any A c l w hl hA).mono ?_
  rintro e w' ⟨v, rfl, hR, hb⟩
  obtain ⟨A', c', rfl, -⟩ := hR.at_
  rw [List.length_map] at hR ⊢
  exact ⟨A', c', rfl, hR, hb⟩
theorem cloneI_at (A : Option Addr) (c : Nat) (l : List Int) (w : World) (hl : l.length ≤ 1000000) (hA : At w 1 A (l.map int1)) :
    Calls Tryz.prog 108 #[.slice A l.length c] w fun e w' => ∃ A' c', e = .returned (.slice A' l.length c') ∧ RowS w' w.heap.size 3 1 (.slice A' l.length c') (l.map int1) ∧ Below w.heap.size w w' := by
  refine (cloneI_any A c l w hl hA).mono ?_
  rintro e w' ⟨v, rfl, hR, hb⟩
  obtain ⟨A', c', rfl, -⟩ := hR.at_
  rw [List.length_map] at hR ⊢
  exact ⟨A', c', rfl, hR, hb⟩
end Go.Proofs.YtfjflkmhhbhceaaGreatDoor


/-
  Layer 8, walks: how numbers are taken. Condition: texts of Go's length.
-/
namespace Go.Proofs.YtfjflkmhhbhceaaGreatDoor
open Go.RowKit
attribute [local go_sem ↓] Go.wp_at_zero Go.wp_at_succ
attribute [local go_sem] rowAt_ptr rowOf_drew rowOf_drewN rowOf_alloc_past rowOf_new

set_option maxHeartbeats 800000 in
theorem taken1_any (g h : Nat) (r : Rs) (w : World) (hR : Rd w g r) (hH : Blk w h 167 [.pointer (some ⟨g, 0, none⟩)]) (hl : r.s.length ≤ 9223372036854775807) :
    Calls Tryz.prog 148 #[.pointer (some ⟨h, 0, none⟩)] w fun e w' => e = .returned (.tuple #[.int .i64 (rU64 r).1, .bool ((rU64 r).2.e == 0)]) ∧ Reads g (rU64 r).2 w w' := by
  have c1 : w.cell? ⟨h, 0, none⟩ = some (.pointer (some ⟨g, 0, none⟩)) := hH.cell 0
  have hne := hH.ne_ hR.1 (by decide)
  have hlt := hH.lt
  have K := Lib.hid (rU64_any g r w.drew (Rd.drewQ hR) hl)
  clear hH hR
  generalize rU64 r = y at *
  obtain ⟨n, q⟩ := y
  go_enter Tryz.func148, Tryz.ntmps148
  go_wp2_with fail
  go_region_held3 (fun W => StQ g w W) (with_reducible first | assumption | exact StQ.start | (refine StQ.call ?_ hT; first | assumption | exact StQ.start)) (first
    | (go_at_call 145; refine K.out.mono ?_; rintro e w1 ⟨rfl, hQ⟩; have hT := hQ.2)
    | (go_at_call 100; refine (rErr_any g q _ hQ.1).mono ?_; rintro e w2 ⟨rfl, rfl⟩))
  all_goals
    have HQ := Lib.hid hQ
    clear hQ hT
    go_wp2
    go_ret2
    exact ⟨rfl, HQ.out.1, (Touch.refl _ _).drew.then_ HQ.out.2⟩
theorem numsK_len {r : Rs} (h : r.s.length ≤ 9223372036854775807) : ∀ k, (numsK r k).2.s.length ≤ 9223372036854775807
  | 0 => h
  | k + 1 => Nat.le_trans (rU64_len (numsK_len h k)) (numsK_len h k)
theorem numsK_one (r : Rs) : ∀ k, (numsK r k).1.length = k
  | 0 => rfl
  | k + 1 => by simp [numsK, numsK_one r k]
theorem rU64_stick8 {r : Rs} (h : r.e ≠ 0) : (rU64 r).2.e ≠ 0 := by
  have h1 : rNum 8 r = (0, r) := rNum_err h
  unfold rU64
  rw [h1]
  simpa using h
theorem numsK_stick {r : Rs} {k : Nat} (h : (numsK r k).2.e ≠ 0) : ∀ m, k ≤ m → (numsK r m).2.e ≠ 0 := by
  intro m hm
  induction m with
  | zero => obtain rfl : k = 0 := by omega
            exact h
  | succ m ih =>
    by_cases hk : k = m + 1
    · subst hk; exact h
    · exact rU64_stick8 (ih (by omega))
/-- what 'some' gives: a row of the call's own, or nil and false -/
def SomeP {α : Type} (T : TypeId) (sz : Nat) (vals : α → List Value) (ok : Bool) (l : List α) (g : Nat) (q : Rs) (w : World) (e : Ending) (w' : World) : Prop :=
  ∃ v, e = .returned (.tuple #[v, .bool ok]) ∧ (ok = true → RowS w' w.heap.size T sz v (l.map vals) ∧ Rd w' g q) ∧ (ok = false → v = .slice none 0 0) ∧ Touch (fun k => k = g) w w'
theorem Rd.belowQ {w w' : World} {g B : Nat} {r : Rs} (h : Rd w g r) (hb : Below B w w') (hg : g < B) : Rd w' g r := ⟨h.1.below hb hg, h.2⟩
theorem Touch.belowQ {F : Nat → Prop} {w W W' : World} (h : Touch F w W) (hb : Below w.heap.size W W') : Touch F w W' :=
  ⟨hb.os.trans h.os, hb.tape.trans h.tape, hb.output.trans h.output, Nat.le_trans h.size hb.size, fun k hk hn => (hb.block k hk).trans (h.block k hk hn)⟩
def numsOk (r : Rs) : Bool := decide ((rU32 r).1 ≤ 16) && ((numsK (rU32 r).2 (rU32 r).1).2.e == 0)

set_option maxRecDepth 20000 in
set_option maxHeartbeats 1600000 in
theorem someI_any (g h : Nat) (r : Rs) (w : World) (hR : Rd w g r) (hH : Blk w h 167 [.pointer (some ⟨g, 0, none⟩)]) (hl : r.s.length ≤ 9223372036854775807) :
    Calls Tryz.prog 147 #[.pointer (some ⟨g, 0, none⟩), .int .i64 16, .func (.func 148) #[] #[.pointer (some ⟨h, 0, none⟩)]] w
      (SomeP 3 1 int1 (numsOk r) (numsK (rU32 r).2 (rU32 r).1).1 g (numsK (rU32 r).2 (rU32 r).1).2 w) := by
  obtain ⟨i0, hi, hz, hsize, hby⟩ := info_parts infoIntB
  have K := Lib.hid (rU32_any g r w hR hl)
  have hq := Nat.le_trans (rU32_len hl) hl
  have hne := hH.ne_ hR.1 (by decide)
  have hgl := hR.lt
  have hhl := hH.lt
  unfold numsOk
  clear hR hl
  generalize rU32 r = y at *
  obtain ⟨n, q⟩ := y
  simp only at hq ⊢
  by_cases hn : 16 < n
  · have hn' : (16 : Int) < n := by omega
    have HO := Lib.hid (show (decide (n ≤ 16) && ((numsK q n).2.e == 0)) = false by simp; omega)
    go_enter Tryz.func147, Tryz.ntmps147
    go_wp2_with fail
    refine K.out.mono ?_
    rintro e w1 ⟨rfl, hQ⟩
    have HQ := Lib.hid hQ
    clear hQ
    go_wp2
    go_ret2
    rw [HO.out]
    refine ⟨.slice none 0 0, rfl, fun h => ?_, fun _ => rfl, HQ.out.2⟩
    exact absurd h (by simp)
  have hn' : ¬ (16 : Int) < n := by omega
  have HLEN := Lib.hid (numsK_len hq)
  go_enter Tryz.func147, Tryz.ntmps147
  go_wp2_with fail
  refine K.out.mono ?_
  rintro e w1 ⟨rfl, hQ⟩
  have hH1 := hH.touch hQ.2 hne
  have HQ := Lib.hid hQ
  clear hQ hH
  go_wp2
  go_loopw [9, 18] (fun v i wr => ∃ k, k ≤ n ∧ i = .int .i64 k ∧ RowS wr w.heap.size 3 1 v ((numsK q k).1.map int1) ∧ Rd wr g (numsK q k).2 ∧ (0 < k → (numsK q k).2.e = 0) ∧ (k = 0 → v = .slice none 0 0) ∧ Blk wr h 167 [.pointer (some ⟨g, 0, none⟩)] ∧ Touch (fun k => k = g) w wr) (fun _ i _ => n - (intOf i).toNat)
  case atStart => exact ⟨0, by omega, rfl, RowS.none_, HQ.out.1, fun h => by omega, fun _ => rfl, hH1, HQ.out.2⟩
  case round =>
    obtain ⟨k, hk, rfl, hRow, hR, he, hv0, hH, hT⟩ := hrel
    have hgw := hR.lt
    have hsz := hT.size
    by_cases hlt : k < n
    · have hlt' : (k : Int) < n := by omega
      have KT := Lib.hid (taken1_any g h _ wr hR hH (HLEN.out k))
      have hs1 : numsK q (k + 1) = ((numsK q k).1 ++ [((rU64 (numsK q k).2).1 : Int)], (rU64 (numsK q k).2).2) := rfl
      have hone := numsK_one q k
      have HST := Lib.hid (numsK_stick (r := q) (k := k + 1))
      rw [hs1] at HST
      clear hR
      generalize rU64 (numsK q k).2 = z at *
      obtain ⟨x, q1⟩ := z
      simp only at hs1 HST
      by_cases he1 : q1.e = 0
      · have he2 : (q1.e == 0) = true := by simpa using he1
        rw [he2] at KT
        go_wp2_with fail
        refine KT.out.mono ?_
        rintro e w2 ⟨rfl, hQ2⟩
        have hRow2 := RowS.touch hRow hQ2.2 (fun j hj hg => by have := (RowS.lt hRow j hj).1; omega)
        have hH2 := hH.touch hQ2.2 hne
        have hT2 := hT.then_ hQ2.2
        have hz2 := hT2.size
        have hap := RowS.append (P := Tryz.prog) 49 49 i0 Tryz.underlying49 hi hz hsize hby rfl (by omega) (by omega) hRow2 (by omega) (int1 (x : Int)) rfl (by simp [int1, Value.oneCell']) (by rw [List.length_map, hone]; omega)
        have HA := Lib.hid hap
        have HK := Lib.hid (And.intro hQ2.1 (And.intro hH2 hT2))
        have HS := Lib.hid hs1
        have hiw : IntKind.i64.wrap ((k : Int) + 1) = (k : Int) + 1 := IntWalk.i64_in _ (by omega)
        clear hap hQ2 hH2 hT2 hRow2 hRow hH hT hs1 hv0 KT
        go_wp2_with (first
          | (refine wpList_append_by (by rfl) (.tmp 27) (.tmp 29) #[49, 49] (by rfl) _ _ (by rfl) (by rfl) HA.out ?_; rintro v' w' ⟨hR', hb'⟩)
          | fail)
        have hb1 := hb' w2 (Below.refl _ _)
        have HR := Lib.hid hR'
        have HQ2 := Lib.hid (Rd.belowQ HK.out.1 hb1 (by omega))
        have HH := Lib.hid (HK.out.2.1.below hb1 (by omega))
        have HT := Lib.hid (HK.out.2.2.belowQ hb1)
        clear hR' hb' hb1 HK HA
        go_roundw
        case rel => exact ⟨k + 1, by omega, by go_num, by rw [HS.out, List.map_append]; exact HR.out, by rw [HS.out]; exact HQ2.out, fun _ => by rw [HS.out]; exact he1, fun h => by omega, HH.out, HT.out⟩
        case measure => simp [intOf]; omega
      · have he2 : (q1.e == 0) = false := by simpa using he1
        rw [he2] at KT
        have HO := Lib.hid (show (decide (n ≤ 16) && ((numsK q n).2.e == 0)) = false by have := HST.out he1 n (by omega); simp [this])
        go_wp2_with fail
        refine KT.out.mono ?_
        rintro e w2 ⟨rfl, hQ2⟩
        have HT := Lib.hid (hT.then_ hQ2.2)
        clear hQ2 hRow hH hT KT
        go_wp2
        go_ret2
        rw [HO.out]
        refine ⟨.slice none 0 0, rfl, fun h => ?_, fun _ => rfl, HT.out⟩
        exact absurd h (by simp)
    · obtain rfl : k = n := by omega
      have HR := Lib.hid hRow
      have HQ2 := Lib.hid hR
      have HT := Lib.hid hT
      have HV := Lib.hid hv0
      have HE := Lib.hid he
      obtain ⟨Q, hQd⟩ : ∃ Q, Q = (numsK q k).2 := ⟨_, rfl⟩
      rw [← hQd] at HQ2 HE
      clear hRow hH hT hv0 he
      go_wp2_with fail
      refine (rErr_any g Q _ HQ2.out).mono ?_
      rintro e w2 ⟨rfl, rfl⟩
      by_cases hQe : Q.e = 0
      · have hQe2 : (Q.e == 0) = true := by simpa using hQe
        have HO := Lib.hid (show (decide (k ≤ 16) && ((numsK q k).2.e == 0)) = true by rw [← hQd]; simp [hQe]; omega)
        rw [hQe]
        go_wp2
        go_ret2
        rw [HO.out, ← hQd]
        refine ⟨_, rfl, fun _ => ⟨HR.out, HQ2.out⟩, fun h => ?_, HT.out⟩
        exact absurd h (by simp)
      · have hk0 : k = 0 := by
          rcases Nat.eq_zero_or_pos k with h | h
          · exact h
          · exact absurd (HE.out h) hQe
        have HO := Lib.hid (show (decide (k ≤ 16) && ((numsK q k).2.e == 0)) = false by rw [← hQd]; simp [hQe])
        have hv := HV.out hk0
        subst hv
        have hQe2 : (Q.e == 0) = false := by simpa using hQe
        go_wp2
        go_ret2
        rw [HO.out]
        refine ⟨.slice none 0 0, ?_, fun h => ?_, fun _ => rfl, HT.out⟩
        · simp
          intro h
          exact hQe (by rw [hQd, hk0]; exact h)
        · exact absurd h (by simp)
end Go.Proofs.YtfjflkmhhbhceaaGreatDoor


/-
  Layer 8, walks: attributes, and what was ahead of a call and behind it, are taken into results (written by wip/tools/genposted.py). Condition: texts of Go's length.
-/
namespace Go.Proofs.YtfjflkmhhbhceaaGreatDoor
open Go.RowKit
attribute [local go_sem ↓] Go.wp_at_zero Go.wp_at_succ
attribute [local go_sem] rowAt_ptr rowOf_drew rowOf_drewN rowOf_alloc_past rowOf_new
attribute [local go_sem ↓] ldPost ldWcc

theorem Touch.wider {F G : Nat → Prop} {w w' : World} (h : Touch F w w') (hFG : ∀ k, F k → G k) : Touch G w w' := h.mono fun k _ hk => hFG k hk

set_option maxHeartbeats 1600000 in
theorem posted8_any (g b o : Nat) (cs : List Value) (r : Rs) (w : World) (hR : Rd w g r) (hB : Blk w b 51 cs) (ho : o + 11 ≤ cs.length) (hl : r.s.length ≤ 9223372036854775807) :
    Calls Tryz.prog 143 #[.pointer (some ⟨g, 0, none⟩), .pointer (some ⟨b, o, none⟩)] w fun e w' => e = .returned (.bool ((gotR Post.ok postZ (rPost r)).2 == 0)) ∧
      Rd w' g (rPost r).2 ∧ Blk w' b 51 (setAt cs o (gotR Post.ok postZ (rPost r)).1.vals) ∧ Touch (fun k => k = g ∨ k = b) w w' := by
  have K := getPost_any g r w hR hl
  have hne := hB.ne_ hR.1 (by decide)
  have hbl := hB.lt
  have hgl := hR.lt
  simp only [gotV] at K
  generalize gotR Post.ok postZ (rPost r) = x at *
  generalize (rPost r).2 = q at *
  obtain ⟨p, n⟩ := x
  simp only at K ⊢
  have K := Lib.hid K
  clear hR
  go_enter Tryz.func143, Tryz.ntmps143
  go_wp2_with fail
  refine K.out.mono ?_
  rintro e w1 ⟨rfl, hQ⟩
  have hB1 := hB.touch hQ.2 hne
  have hz1 := hQ.2.size
  obtain ⟨w2, hw2⟩ : ∃ V, V = w1.alloc (.cells p.vals.toArray 45) := ⟨_, rfl⟩
  have hx := (Below.refl w1.heap.size w1).alloc (Nat.le_refl _) (.cells p.vals.toArray 45)
  have x2 := Blk.new w1 45 p.vals
  have hB2 := hB1.stays hx
  have hR2 := hQ.1.stays hx
  have hT2 : Touch (fun k => k = g ∨ k = b) w _ := (hQ.2.wider (fun _ h => .inl h)).then_ (Touch.of_below hx _)
  rw [← hw2] at x2 hB2 hR2 hT2
  have HW2 := Lib.hid hw2
  have r2 := x2.row 0 11 (by simp [Post.len])
  rw [show (p.vals.drop 0).take 11 = p.vals by rw [List.drop_zero, List.take_of_length_le (by rw [Post.len]; omega)]] at r2
  obtain ⟨w3, hw3⟩ : ∃ V, V = w2.setCells b o p.vals := ⟨_, rfl⟩
  have hB3 := hB2.sets p.vals _ o
  have hR3 : Rd (w2.setCells b o p.vals) g q := hR2.touch (Touch.setCells (F := fun k => k = b) (.inl rfl) _ o w2 (Touch.refl _ _)) (fun hh => hne hh.symm)
  have hT3 := Touch.setCells (F := fun k => k = g ∨ k = b) (a := w) (.inl (.inr rfl)) p.vals o w2 hT2
  rw [← hw3] at hB3 hR3 hT3
  have HW3 := Lib.hid hw3
  have HL := Lib.hid (And.intro hR3 (And.intro hB3 hT3))
  clear hQ hB1 hx hR2 hT2 hw2 hw3 hB3 hR3 hT3 x2 hB
  go_wp2_with (first
    | (refine wpList_store_new (by rfl) 45 _ _ (by rfl) p.vals postZ.vals w1 45 rfl (by rfl) (by rfl) (by rfl) (by kernel_rfl) (Post.one _) ?_; rw [← HW2.out])
    | (refine wpList_store_part (by rfl) 45 _ _ (by rfl) b o p.vals _ hB2 (by rw [Post.len]; omega) (by rfl) (by rfl) (by kernel_rfl) (Post.one _) ?_; rw [← HW3.out])
    | fail)
  go_ret
  exact ⟨rfl, HL.out⟩

set_option maxHeartbeats 1600000 in
theorem both8_any (g b o : Nat) (cs : List Value) (r : Rs) (w : World) (hR : Rd w g r) (hB : Blk w b 51 cs) (ho : o + 13 ≤ cs.length) (hl : r.s.length ≤ 9223372036854775807) :
    Calls Tryz.prog 144 #[.pointer (some ⟨g, 0, none⟩), .pointer (some ⟨b, o, none⟩)] w fun e w' => e = .returned (.bool ((gotR Wcc.ok wccZ (rWcc r)).2 == 0)) ∧
      Rd w' g (rWcc r).2 ∧ Blk w' b 51 (setAt cs o (gotR Wcc.ok wccZ (rWcc r)).1.vals) ∧ Touch (fun k => k = g ∨ k = b) w w' := by
  have K := getWcc_any g r w hR hl
  have hne := hB.ne_ hR.1 (by decide)
  have hbl := hB.lt
  have hgl := hR.lt
  simp only [gotV] at K
  generalize gotR Wcc.ok wccZ (rWcc r) = x at *
  generalize (rWcc r).2 = q at *
  obtain ⟨p, n⟩ := x
  simp only at K ⊢
  have K := Lib.hid K
  clear hR
  go_enter Tryz.func144, Tryz.ntmps144
  go_wp2_with fail
  refine K.out.mono ?_
  rintro e w1 ⟨rfl, hQ⟩
  have hB1 := hB.touch hQ.2 hne
  have hz1 := hQ.2.size
  obtain ⟨w2, hw2⟩ : ∃ V, V = w1.alloc (.cells p.vals.toArray 47) := ⟨_, rfl⟩
  have hx := (Below.refl w1.heap.size w1).alloc (Nat.le_refl _) (.cells p.vals.toArray 47)
  have x2 := Blk.new w1 47 p.vals
  have hB2 := hB1.stays hx
  have hR2 := hQ.1.stays hx
  have hT2 : Touch (fun k => k = g ∨ k = b) w _ := (hQ.2.wider (fun _ h => .inl h)).then_ (Touch.of_below hx _)
  rw [← hw2] at x2 hB2 hR2 hT2
  have HW2 := Lib.hid hw2
  have r2 := x2.row 0 13 (by simp [Wcc.len])
  rw [show (p.vals.drop 0).take 13 = p.vals by rw [List.drop_zero, List.take_of_length_le (by rw [Wcc.len]; omega)]] at r2
  obtain ⟨w3, hw3⟩ : ∃ V, V = w2.setCells b o p.vals := ⟨_, rfl⟩
  have hB3 := hB2.sets p.vals _ o
  have hR3 : Rd (w2.setCells b o p.vals) g q := hR2.touch (Touch.setCells (F := fun k => k = b) (.inl rfl) _ o w2 (Touch.refl _ _)) (fun hh => hne hh.symm)
  have hT3 := Touch.setCells (F := fun k => k = g ∨ k = b) (a := w) (.inl (.inr rfl)) p.vals o w2 hT2
  rw [← hw3] at hB3 hR3 hT3
  have HW3 := Lib.hid hw3
  have HL := Lib.hid (And.intro hR3 (And.intro hB3 hT3))
  clear hQ hB1 hx hR2 hT2 hw2 hw3 hB3 hR3 hT3 x2 hB
  go_wp2_with (first
    | (refine wpList_store_new (by rfl) 47 _ _ (by rfl) p.vals wccZ.vals w1 47 rfl (by rfl) (by rfl) (by rfl) (by kernel_rfl) (Wcc.one _) ?_; rw [← HW2.out])
    | (refine wpList_store_part (by rfl) 47 _ _ (by rfl) b o p.vals _ hB2 (by rw [Wcc.len]; omega) (by rfl) (by rfl) (by kernel_rfl) (Wcc.one _) ?_; rw [← HW3.out])
    | fail)
  go_ret
  exact ⟨rfl, HL.out⟩
end Go.Proofs.YtfjflkmhhbhceaaGreatDoor


/-
  Layer 8, walks: an entry is taken (written by wip/tools/genone.py). Condition: texts of Go's length.
-/
namespace Go.Proofs.YtfjflkmhhbhceaaGreatDoor
open Go.RowKit
attribute [local go_sem ↓] Go.wp_at_zero Go.wp_at_succ
attribute [local go_sem] rowAt_ptr rowOf_drew rowOf_drewN rowOf_alloc_past rowOf_new
attribute [local go_sem ↓] ldPost ldEntry

attribute [local go_sem] Entry.at0 Entry.lat0 Entry.at1 Entry.lat1 Entry.at2 Entry.lat2 Entry.at3 Entry.lat3 Entry.at4 Entry.lat4 Entry.at5 Entry.lat5 Entry.at6 Entry.lat6 Entry.at7 Entry.lat7 Entry.at8 Entry.lat8 Entry.at9 Entry.lat9 Entry.at10 Entry.lat10 Entry.at11 Entry.lat11 Entry.at12 Entry.lat12 Entry.at13 Entry.lat13 Entry.at14 Entry.lat14 Entry.sub0_15 Entry.lsub0_15 Entry.sub3_11 Entry.lsub3_11 Entry.sub4_10 Entry.lsub4_10 Entry.len

theorem rowOf_farQ (w : World) (b o n o' : Nat) {b' : Nat} (hn : ¬ b = b') (v : Value) : rowOf (w.setCell ⟨b', o', none⟩ v) b o n = rowOf w b o n := by
  simp only [rowOf, Below.heap_setCell w ⟨b', o', none⟩ v b hn]
def entryZ8 : Entry := ⟨0, [], 0, postZ8, []⟩
/-- what 'one' gives -/
def OneP (whole : Bool) (r : Rs) (g : Nat) (w : World) (e : Ending) (w' : World) : Prop :=
  ∃ x : Entry, e = .returned (.tuple #[.agg x.vals.toArray, .bool (oneOk whole r)]) ∧ (oneOk whole r = true → x = (oneE whole r).1 ∧ Rd w' g (oneE whole r).2) ∧ Touch (fun k => k = g) w w'
theorem OneP.of {whole : Bool} {r : Rs} {g : Nat} {w w' : World} {x : Entry} {b : Bool} (hb : oneOk whole r = b) (h : b = true → x = (oneE whole r).1 ∧ Rd w' g (oneE whole r).2) (hT : Touch (fun k => k = g) w w') :
    OneP whole r g w (.returned (.tuple #[.agg x.vals.toArray, .bool b])) w' := by subst hb; exact ⟨x, rfl, h, hT⟩
theorem rPost_len8 {r : Rs} (h : r.s.length ≤ 9223372036854775807) : (rPost r).2.s.length ≤ 9223372036854775807 := Nat.le_trans (rPost_len h) h
theorem rOpaque_len8 {n : Int} {r : Rs} (h : r.s.length ≤ 9223372036854775807) : (rOpaque n r).2.s.length ≤ r.s.length := by
  unfold rOpaque; split
  · exact rU32_len h
  · split
    · simp [Rs.fail]
    · exact Nat.le_trans (rPadded_len (Nat.le_trans (rU32_len h) h)) (rU32_len h)

set_option maxRecDepth 20000 in
set_option maxHeartbeats 3200000 in
theorem one_any (g : Nat) (whole : Bool) (r : Rs) (w : World) (hR : Rd w g r) (hl : r.s.length ≤ 9223372036854775807) :
    Calls Tryz.prog 151 #[.pointer (some ⟨g, 0, none⟩), .bool whole] w (OneP whole r g w) := by
  obtain ⟨⟨x1, q1⟩, h1⟩ : ∃ y, rU64 r = y := ⟨_, rfl⟩
  obtain ⟨⟨l2, q2⟩, h2⟩ : ∃ y, rOpaque 255 q1 = y := ⟨_, rfl⟩
  obtain ⟨⟨x3, q3⟩, h3⟩ : ∃ y, rU64 q2 = y := ⟨_, rfl⟩
  have g1 : q1.s.length ≤ 9223372036854775807 := by have := rU64_len hl; rw [h1] at this; exact Nat.le_trans this hl
  have g2 : q2.s.length ≤ 9223372036854775807 := by have := Nat.le_trans (rOpaque_len8 (n := 255) g1) g1; rw [h2] at this; exact this
  have g3 : q3.s.length ≤ 9223372036854775807 := by have := Nat.le_trans (rU64_len g2) g2; rw [h3] at this; exact this
  have hA : oneA r = (⟨x1, l2, x3, postZ8, []⟩, q3) := by simp only [oneA, h1, h2, h3]
  have K1 := Lib.hid (fun W (h : Rd W g r) => rU64_any g r W h hl)
  have K2 := Lib.hid (fun W (h : Rd W g q1) => rOpaque_any g 255 q1 W h g1)
  have K3 := Lib.hid (fun W (h : Rd W g q2) => rU64_any g q2 W h g2)
  rw [h1] at K1
  rw [h2] at K2
  rw [h3] at K3
  simp only at K1 K2 K3
  obtain ⟨br, be, hB0, hs0⟩ := chain2_blks w entryZ8.vals entryZ8.vals 126 126
  obtain ⟨w0, hw0⟩ : ∃ V, V = (w.alloc (.cells entryZ8.vals.toArray 126)).alloc (.cells entryZ8.vals.toArray 126) := ⟨_, rfl⟩
  rw [← hw0] at br be hB0 hs0
  have HW0 := Lib.hid hw0
  have hgl := hR.lt
  replace hR := hR.stays hB0
  have hT := Touch.of_below hB0 (fun k => k = g)
  have ne : w.heap.size + 1 ≠ g := by omega
  have nr : w.heap.size ≠ g := by omega
  clear hw0 hB0 hs0 h1 h2 h3 hl
  go_enter Tryz.func151, Tryz.ntmps151
  go_wp2_with fail
  change Calls _ _ _ ((w.alloc (.cells entryZ8.vals.toArray 126)).alloc (.cells entryZ8.vals.toArray 126)) _
  rw [← HW0.out]
  refine (K1.out _ hR).mono ?_
  rintro e w1 ⟨rfl, hQ⟩
  replace be := be.touch hQ.2 ne
  replace br := br.touch hQ.2 nr
  replace hT := hT.then_ hQ.2
  replace hR := hQ.1
  clear hQ
  have c0 := be.cell 0
  have z0 := be.frozen 0
  have bex : Blk (w1.setCell ⟨w.heap.size + 1, 0, none⟩ (.int .i64 x1)) (w.heap.size + 1) 126 (Entry.vals ⟨x1, [], 0, postZ8, []⟩) := be.set_ 0 (.int .i64 x1)
  have brx := br.far (p := ⟨w.heap.size + 1, 0, none⟩) (by simp) (.int .i64 x1)
  have hRx : Rd (w1.setCell ⟨w.heap.size + 1, 0, none⟩ (.int .i64 x1)) g q1 := ⟨hR.1.far (p := ⟨w.heap.size + 1, 0, none⟩) (fun e => ne e.symm) (.int .i64 x1), hR.2⟩
  have hTx := hT.setCell_ (g := w.heap.size + 1) (o := 0) (.inr (by omega)) (.int .i64 x1)
  go_wp2_with fail
  obtain ⟨wa, hw⟩ : ∃ V, V = w1.setCell ⟨w.heap.size + 1, 0, none⟩ (.int .i64 x1) := ⟨_, rfl⟩
  rw [← hw] at bex brx hRx hTx
  have HWN := Lib.hid hw
  clear hw be br hR hT
  have be := bex
  have br := brx
  have hR := hRx
  have hT := hTx
  clear bex brx hRx hTx
  rw [← HWN.out]
  clear HWN c0 z0
  refine (K2.out _ hR).mono ?_
  rintro e w2 ⟨rfl, hQ⟩
  replace be := be.touch hQ.2 ne
  replace br := br.touch hQ.2 nr
  replace hT := hT.then_ hQ.2
  replace hR := hQ.1
  clear hQ
  have c1 := be.cell 1
  have z1 := be.frozen 1
  have bex : Blk (w2.setCell ⟨w.heap.size + 1, 1, none⟩ (.string (bs l2))) (w.heap.size + 1) 126 (Entry.vals ⟨x1, l2, 0, postZ8, []⟩) := be.set_ 1 (.string (bs l2))
  have brx := br.far (p := ⟨w.heap.size + 1, 1, none⟩) (by simp) (.string (bs l2))
  have hRx : Rd (w2.setCell ⟨w.heap.size + 1, 1, none⟩ (.string (bs l2))) g q2 := ⟨hR.1.far (p := ⟨w.heap.size + 1, 1, none⟩) (fun e => ne e.symm) (.string (bs l2)), hR.2⟩
  have hTx := hT.setCell_ (g := w.heap.size + 1) (o := 1) (.inr (by omega)) (.string (bs l2))
  go_wp2_with fail
  obtain ⟨wb, hw⟩ : ∃ V, V = w2.setCell ⟨w.heap.size + 1, 1, none⟩ (.string (bs l2)) := ⟨_, rfl⟩
  rw [← hw] at bex brx hRx hTx
  have HWN := Lib.hid hw
  clear hw be br hR hT
  have be := bex
  have br := brx
  have hR := hRx
  have hT := hTx
  clear bex brx hRx hTx
  rw [← HWN.out]
  clear HWN c1 z1
  refine (K3.out _ hR).mono ?_
  rintro e w3 ⟨rfl, hQ⟩
  replace be := be.touch hQ.2 ne
  replace br := br.touch hQ.2 nr
  replace hT := hT.then_ hQ.2
  replace hR := hQ.1
  clear hQ
  have c2 := be.cell 2
  have z2 := be.frozen 2
  have bex : Blk (w3.setCell ⟨w.heap.size + 1, 2, none⟩ (.int .i64 x3)) (w.heap.size + 1) 126 (Entry.vals ⟨x1, l2, x3, postZ8, []⟩) := be.set_ 2 (.int .i64 x3)
  have brx := br.far (p := ⟨w.heap.size + 1, 2, none⟩) (by simp) (.int .i64 x3)
  have hRx : Rd (w3.setCell ⟨w.heap.size + 1, 2, none⟩ (.int .i64 x3)) g q3 := ⟨hR.1.far (p := ⟨w.heap.size + 1, 2, none⟩) (fun e => ne e.symm) (.int .i64 x3), hR.2⟩
  have hTx := hT.setCell_ (g := w.heap.size + 1) (o := 2) (.inr (by omega)) (.int .i64 x3)
  cases whole
  case false =>
    have HOK := Lib.hid (show oneOk false r = (q3.e == 0) by simp [oneOk, oneE, hA])
    have HE := Lib.hid (show oneE false r = (⟨x1, l2, x3, postZ8, []⟩, q3) by simp [oneE, hA])
    go_wp2_with fail
    obtain ⟨wc, hw⟩ : ∃ V, V = w3.setCell ⟨w.heap.size + 1, 2, none⟩ (.int .i64 x3) := ⟨_, rfl⟩
    rw [← hw] at bex brx hRx hTx
    have HWN := Lib.hid hw
    clear hw be br hR hT
    have be := bex
    have br := brx
    have hR := hRx
    have hT := hTx
    clear bex brx hRx hTx
    rw [← HWN.out]
    clear HWN c2 z2
    have r4 : rowOf wc (w.heap.size + 1) 0 15 = some #[.int .i64 x1, .string (bs l2), .int .i64 x3, .bool false, .int .i64 0, .int .i64 0, .int .i64 0, .int .i64 0, .int .i64 0, .int .i64 0, .int .i64 0, .int .i64 0, .int .i64 0, .int .i64 0, .string ⟨#[]⟩] := be.row 0 15 (by simp [Entry.len])
    have cr := br.cell
    have zr := br.frozen
    have HL := Lib.hid (And.intro hR (And.intro br hT))
    have hRd : Rd wc.drew g q3 := hR
    have r4d := r4
    rw [← rowOf_drew] at r4d
    have nrb : ¬ w.heap.size + 1 = w.heap.size := by omega
    go_region_held3 (fun V => rowOf V (w.heap.size + 1) 0 15 = some #[.int .i64 x1, .string (bs l2), .int .i64 x3, .bool false, .int .i64 0, .int .i64 0, .int .i64 0, .int .i64 0, .int .i64 0, .int .i64 0, .int .i64 0, .int .i64 0, .int .i64 0, .int .i64 0, .string ⟨#[]⟩]) (first | (with_reducible assumption) | (simp only [rowOf_drew, rowOf_farQ _ _ _ _ _ nrb]; with_reducible assumption)) (first
      | (go_at_call 100; refine (rErr_any g q3 _ hRd).mono ?_; rintro e wq ⟨rfl, rfl⟩))
    all_goals
      change Exit.then _ _ _ _ (wc.setCells w.heap.size 0 (Entry.vals ⟨x1, l2, x3, postZ8, []⟩)).drew
      obtain ⟨hR9, br9, hT9⟩ := HL.out
      obtain ⟨wy, hwy⟩ : ∃ V, V = wc.setCells w.heap.size 0 (Entry.vals ⟨x1, l2, x3, postZ8, []⟩) := ⟨_, rfl⟩
      have bz : Blk wy w.heap.size 126 (Entry.vals ⟨x1, l2, x3, postZ8, []⟩) := by rw [hwy]; exact br9.whole (by rfl)
      have hRz : Rd wy g q3 := by rw [hwy]; exact hR9.touch (Touch.setCells (F := fun k => k = w.heap.size) (.inl rfl) (Entry.vals ⟨x1, l2, x3, postZ8, []⟩) 0 wc (Touch.refl _ _)) (fun hh => nr hh.symm)
      have hTz : Touch (fun k => k = g) w wy := by rw [hwy]; exact Touch.setCells (.inr (Nat.le_refl _)) (Entry.vals ⟨x1, l2, x3, postZ8, []⟩) 0 wc hT9
      rw [← hwy]
      clear hwy hR9 br9 hT9 cr zr r4 r4d
      try clear ‹rowOf _ _ 0 15 = _›
      replace bz := bz.drew
      replace hRz := Rd.drewQ hRz
      replace hTz := hTz.drew
      go_wp2
      refine ret_cells2 w.heap.size 0 (Entry.vals ⟨x1, l2, x3, postZ8, []⟩) (.bool (q3.e == 0)) Tryz.results151 Tryz.underlying126 rfl (by kernel_rfl) rfl rfl bz.range rfl ?_
      exact OneP.of HOK.out (fun _ => ⟨by rw [HE.out], by rw [HE.out]; exact hRz⟩) hTz
  case true =>
    have HX0 := Lib.hid hA
    have K4 := getPost_any g q3
    have g4 := rPost_len8 g3
    obtain ⟨⟨p, n⟩, h4⟩ : ∃ y, gotR Post.ok postZ (rPost q3) = y := ⟨_, rfl⟩
    obtain ⟨q4, h4q⟩ : ∃ y, (rPost q3).2 = y := ⟨_, rfl⟩
    rw [h4, h4q] at K4
    rw [h4q] at g4
    simp only [gotV] at K4
    obtain ⟨⟨l5, q5⟩, h5⟩ : ∃ y, rOpaque 64 q4 = y := ⟨_, rfl⟩
    have K5 := Lib.hid (fun W (h : Rd W g q4) => rOpaque_any g 64 q4 W h g4)
    rw [h5] at K5
    simp only at K5
    have K4 := Lib.hid (fun W h => K4 W h g3)
    have HOK := Lib.hid (show oneOk true r = ((n == 0) && (q5.e == 0)) by simp [oneOk, oneE, hA, h4, h4q, h5])
    have HE := Lib.hid (show oneE true r = (⟨x1, l2, x3, p, l5⟩, q5) by simp [oneE, hA, h4, h4q, h5])
    clear h4 h4q h5 hA g4
    go_wp2_with fail
    obtain ⟨wc, hw⟩ : ∃ V, V = w3.setCell ⟨w.heap.size + 1, 2, none⟩ (.int .i64 x3) := ⟨_, rfl⟩
    rw [← hw] at bex brx hRx hTx
    have HWN := Lib.hid hw
    clear hw be br hR hT
    have be := bex
    have br := brx
    have hR := hRx
    have hT := hTx
    clear bex brx hRx hTx
    rw [← HWN.out]
    clear HWN c2 z2
    refine (K4.out _ hR).mono ?_
    rintro e w4 ⟨rfl, hQ⟩
    replace be := be.touch hQ.2 ne
    replace br := br.touch hQ.2 nr
    replace hT := hT.then_ hQ.2
    replace hR := hQ.1
    clear hQ
    obtain ⟨w5, hw5⟩ : ∃ V, V = w4.alloc (.cells p.vals.toArray 45) := ⟨_, rfl⟩
    have hx := (Below.refl w4.heap.size w4).alloc (Nat.le_refl _) (.cells p.vals.toArray 45)
    have x5 := Blk.new w4 45 p.vals
    replace be := be.stays hx
    replace br := br.stays hx
    replace hR := hR.stays hx
    replace hT := hT.then_ (Touch.of_below hx _)
    rw [← hw5] at x5 be br hR hT
    have HW5 := Lib.hid hw5
    have hpb : w.heap.size + 1 < w4.heap.size := by
      have h := be.lt
      rw [HW5.out] at h
      have := x5.ne_ be (by decide)
      simp at h
      omega
    clear hw5 hx
    have r5 := x5.row 0 11 (by simp [Post.len])
    rw [show (p.vals.drop 0).take 11 = p.vals by rw [List.drop_zero, List.take_of_length_le (by rw [Post.len]; omega)]] at r5
    have r4 := be.row 0 15 (by simp [Entry.len])
    rw [show ((Entry.vals ⟨x1, l2, x3, postZ8, []⟩).drop 0).take 15 = Entry.vals ⟨x1, l2, x3, postZ8, []⟩ from rfl] at r4
    by_cases hn : n = 0
    case neg =>
      have HO := Lib.hid (show oneOk true r = false by rw [HOK.out]; simp [hn])
      go_wp2_with (first
        | (refine wpList_store_new (by rfl) 45 _ _ (by rfl) p.vals postZ.vals w4 45 rfl (by rfl) (by rfl) (by rfl) (by kernel_rfl) (Post.one _) ?_; rw [← HW5.out])
        | (refine wpList_store_whole (by rfl) 126 _ _ (by rfl) w.heap.size (Entry.vals ⟨x1, l2, x3, postZ8, []⟩) _ br (by rfl) (by rfl) (by rfl) (by kernel_rfl) (Entry.one _) ?_)
        | fail)
      refine ret_cells2 w.heap.size 0 (Entry.vals ⟨x1, l2, x3, postZ8, []⟩) (.bool false) Tryz.results151 Tryz.underlying126 rfl (by kernel_rfl) rfl rfl (br.whole (by rfl)).range rfl ?_
      exact OneP.of HO.out (fun h => by cases h) (Touch.setCells (.inr (Nat.le_refl _)) _ _ _ hT)
    obtain ⟨w6, hw6⟩ : ∃ V, V = w5.setCells (w.heap.size + 1) 3 p.vals := ⟨_, rfl⟩
    have be6 : Blk w6 (w.heap.size + 1) 126 (Entry.vals ⟨x1, l2, x3, p, []⟩) := by rw [hw6]; exact be.sets p.vals _ 3
    have br6 : Blk w6 w.heap.size 126 (Entry.vals entryZ8) := by rw [hw6]; exact Blk.farCells (by omega) p.vals 3 _ br
    have hR6 : Rd w6 g q4 := by rw [hw6]; exact hR.touch (Touch.setCells (F := fun k => k = w.heap.size + 1) (.inl rfl) p.vals 3 w5 (Touch.refl _ _)) (fun hh => ne hh.symm)
    have hT6 : Touch (fun k => k = g) w w6 := by rw [hw6]; exact Touch.setCells (.inr (by omega)) p.vals 3 w5 hT
    have HW6 := Lib.hid hw6
    clear hw6
    subst hn
    go_wp2_with (first
      | (refine wpList_store_new (by rfl) 45 _ _ (by rfl) p.vals postZ.vals w4 45 rfl (by rfl) (by rfl) (by rfl) (by kernel_rfl) (Post.one _) ?_; rw [← HW5.out])
      | (refine wpList_store_part (by rfl) 45 _ _ (by rfl) (w.heap.size + 1) 3 p.vals _ be (by rw [Post.len]; simp [Entry.len]) (by rfl) (by rfl) (by kernel_rfl) (Post.one _) ?_; rw [← HW6.out])
      | fail)
    clear be br hR hT x5 r5 r4
    have be := be6
    have br := br6
    have hR := hR6
    have hT := hT6
    clear be6 br6 hR6 hT6
    refine (K5.out _ hR).mono ?_
    rintro e w7 ⟨rfl, hQ⟩
    replace be := be.touch hQ.2 ne
    replace br := br.touch hQ.2 nr
    replace hT := hT.then_ hQ.2
    replace hR := hQ.1
    clear hQ
    have c14 := be.cell 14
    have z14 := be.frozen 14
    have bex : Blk (w7.setCell ⟨w.heap.size + 1, 14, none⟩ (.string (bs l5))) (w.heap.size + 1) 126 (Entry.vals ⟨x1, l2, x3, p, l5⟩) := be.set_ 14 (.string (bs l5))
    have brx := br.far (p := ⟨w.heap.size + 1, 14, none⟩) (by simp) (.string (bs l5))
    have hRx : Rd (w7.setCell ⟨w.heap.size + 1, 14, none⟩ (.string (bs l5))) g q5 := ⟨hR.1.far (p := ⟨w.heap.size + 1, 14, none⟩) (fun e => ne e.symm) (.string (bs l5)), hR.2⟩
    have hTx := hT.setCell_ (g := w.heap.size + 1) (o := 14) (.inr (by omega)) (.string (bs l5))
    go_wp2_with fail
    obtain ⟨wc, hw⟩ : ∃ V, V = w7.setCell ⟨w.heap.size + 1, 14, none⟩ (.string (bs l5)) := ⟨_, rfl⟩
    rw [← hw] at bex brx hRx hTx
    have HWN := Lib.hid hw
    clear hw be br hR hT
    have be := bex
    have br := brx
    have hR := hRx
    have hT := hTx
    clear bex brx hRx hTx
    rw [← HWN.out]
    clear HWN c14 z14
    obtain ⟨pi, a0, a1, a2, a3, a4, a5, a6, a7, a8, a9⟩ := p
    have r4 : rowOf wc (w.heap.size + 1) 0 15 = some #[.int .i64 x1, .string (bs l2), .int .i64 x3, .bool pi, .int .i64 a0, .int .i64 a1, .int .i64 a2, .int .i64 a3, .int .i64 a4, .int .i64 a5, .int .i64 a6, .int .i64 a7, .int .i64 a8, .int .i64 a9, .string (bs l5)] := be.row 0 15 (by simp [Entry.len])
    have cr := br.cell
    have zr := br.frozen
    have HL := Lib.hid (And.intro hR (And.intro br hT))
    have hRd : Rd wc.drew g q5 := hR
    have r4d := r4
    rw [← rowOf_drew] at r4d
    have nrb : ¬ w.heap.size + 1 = w.heap.size := by omega
    go_region_held3 (fun V => rowOf V (w.heap.size + 1) 0 15 = some #[.int .i64 x1, .string (bs l2), .int .i64 x3, .bool pi, .int .i64 a0, .int .i64 a1, .int .i64 a2, .int .i64 a3, .int .i64 a4, .int .i64 a5, .int .i64 a6, .int .i64 a7, .int .i64 a8, .int .i64 a9, .string (bs l5)]) (first | (with_reducible assumption) | (simp only [rowOf_drew, rowOf_farQ _ _ _ _ _ nrb]; with_reducible assumption)) (first
      | (go_at_call 100; refine (rErr_any g q5 _ hRd).mono ?_; rintro e wq ⟨rfl, rfl⟩))
    all_goals
      change Exit.then _ _ _ _ (wc.setCells w.heap.size 0 (Entry.vals ⟨x1, l2, x3, ⟨pi, ⟨a0, a1, a2, a3, a4, a5, a6, a7, a8, a9⟩⟩, l5⟩)).drew
      obtain ⟨hR9, br9, hT9⟩ := HL.out
      obtain ⟨wy, hwy⟩ : ∃ V, V = wc.setCells w.heap.size 0 (Entry.vals ⟨x1, l2, x3, ⟨pi, ⟨a0, a1, a2, a3, a4, a5, a6, a7, a8, a9⟩⟩, l5⟩) := ⟨_, rfl⟩
      have bz : Blk wy w.heap.size 126 (Entry.vals ⟨x1, l2, x3, ⟨pi, ⟨a0, a1, a2, a3, a4, a5, a6, a7, a8, a9⟩⟩, l5⟩) := by rw [hwy]; exact br9.whole (by rfl)
      have hRz : Rd wy g q5 := by rw [hwy]; exact hR9.touch (Touch.setCells (F := fun k => k = w.heap.size) (.inl rfl) (Entry.vals ⟨x1, l2, x3, ⟨pi, ⟨a0, a1, a2, a3, a4, a5, a6, a7, a8, a9⟩⟩, l5⟩) 0 wc (Touch.refl _ _)) (fun hh => nr hh.symm)
      have hTz : Touch (fun k => k = g) w wy := by rw [hwy]; exact Touch.setCells (.inr (Nat.le_refl _)) (Entry.vals ⟨x1, l2, x3, ⟨pi, ⟨a0, a1, a2, a3, a4, a5, a6, a7, a8, a9⟩⟩, l5⟩) 0 wc hT9
      rw [← hwy]
      clear hwy hR9 br9 hT9 cr zr r4 r4d
      try clear ‹rowOf _ _ 0 15 = _›
      replace bz := bz.drew
      replace hRz := Rd.drewQ hRz
      replace hTz := hTz.drew
      have HO := Lib.hid (show oneOk true r = (q5.e == 0) by rw [HOK.out]; rfl)
      go_wp2
      refine ret_cells2 w.heap.size 0 (Entry.vals ⟨x1, l2, x3, ⟨pi, ⟨a0, a1, a2, a3, a4, a5, a6, a7, a8, a9⟩⟩, l5⟩) (.bool (q5.e == 0)) Tryz.results151 Tryz.underlying126 rfl (by kernel_rfl) rfl rfl bz.range rfl ?_
      exact OneP.of HO.out (fun _ => ⟨by rw [HE.out], by rw [HE.out]; exact hRz⟩) hTz
end Go.Proofs.YtfjflkmhhbhceaaGreatDoor


/-
  Layer 8, walks: entries are taken. Condition: texts of Go's length.
-/
namespace Go.Proofs.YtfjflkmhhbhceaaGreatDoor
open Go.RowKit
attribute [local go_sem ↓] Go.wp_at_zero Go.wp_at_succ
attribute [local go_sem] rowAt_ptr rowOf_drew rowOf_drewN rowOf_alloc_past rowOf_new
attribute [local go_sem ↓] ldEntry

attribute [local go_sem] Entry.at0 Entry.lat0 Entry.at1 Entry.lat1 Entry.at2 Entry.lat2 Entry.at3 Entry.lat3 Entry.at4 Entry.lat4 Entry.at5 Entry.lat5 Entry.at6 Entry.lat6 Entry.at7 Entry.lat7 Entry.at8 Entry.lat8 Entry.at9 Entry.lat9 Entry.at10 Entry.lat10 Entry.at11 Entry.lat11 Entry.at12 Entry.lat12 Entry.at13 Entry.lat13 Entry.at14 Entry.lat14 Entry.sub0_15 Entry.lsub0_15 Entry.sub3_11 Entry.lsub3_11 Entry.sub4_10 Entry.lsub4_10 Entry.len

set_option maxRecDepth 20000 in
set_option maxHeartbeats 800000 in
theorem taken2_any (g h b : Nat) (c : Int) (whole : Bool) (hc : (c == 112) = whole) (r : Rs) (w : World) (hR : Rd w g r) (hH : Blk w h 167 [.pointer (some ⟨g, 0, none⟩)]) (hL : Blk w b 21 [.int .i32 c]) (hl : r.s.length ≤ 9223372036854775807) :
    Calls Tryz.prog 150 #[.pointer (some ⟨h, 0, none⟩), .pointer (some ⟨b, 0, none⟩)] w (OneP whole r g w) := by
  have hx := (Below.refl w.heap.size w).alloc (Nat.le_refl _) (.cells entryZ8.vals.toArray 126)
  have br := Blk.new w 126 entryZ8.vals
  have hgl := hR.lt
  have hne := hH.ne_ hR.1 (by decide)
  have nr : w.heap.size ≠ g := by omega
  obtain ⟨w0, hw0⟩ : ∃ V, V = w.alloc (.cells entryZ8.vals.toArray 126) := ⟨_, rfl⟩
  rw [← hw0] at hx br
  replace hR := hR.stays hx
  replace hH := hH.stays hx
  replace hL := hL.stays hx
  have hT := Touch.of_below hx (fun k => k = g)
  have HW0 := Lib.hid hw0
  have c1 : w0.cell? ⟨h, 0, none⟩ = some (.pointer (some ⟨g, 0, none⟩)) := hH.cell 0
  have c2 : w0.cell? ⟨b, 0, none⟩ = some (.int .i32 c) := hL.cell 0
  have K := Lib.hid (one_any g whole r w0 hR hl)
  clear hw0 hx hR hH hL
  go_enter Tryz.func150, Tryz.ntmps150
  go_upto_region 1 with fail
  change Code.wp _ _ _ _ (w.alloc (.cells entryZ8.vals.toArray 126))
  rw [← HW0.out]
  go_wp2_with fail
  refine K.out.mono ?_
  rintro e w1 ⟨x, rfl, hx, hT1⟩
  replace br := br.touch hT1 nr
  replace hT := hT.then_ hT1
  obtain ⟨w2, hw2⟩ : ∃ V, V = w1.setCells w.heap.size 0 x.vals := ⟨_, rfl⟩
  have bz : Blk w2 w.heap.size 126 x.vals := by rw [hw2]; exact br.whole (by rfl)
  have hT2 : Touch (fun k => k = g) w w2 := by rw [hw2]; exact Touch.setCells (.inr (Nat.le_refl _)) x.vals 0 w1 hT
  have hR2 : oneOk whole r = true → x = (oneE whole r).1 ∧ Rd w2 g (oneE whole r).2 := fun ho => ⟨(hx ho).1, by rw [hw2]; exact (hx ho).2.touch (Touch.setCells (F := fun k => k = w.heap.size) (.inl rfl) x.vals 0 w1 (Touch.refl _ _)) (fun hh => nr hh.symm)⟩
  have HW2 := Lib.hid hw2
  have HL := Lib.hid (And.intro bz (And.intro hT2 hR2))
  clear hw2 bz hT2 hR2 hx hT hT1 c1 c2
  go_wp2_with (first
    | (refine wpList_store_whole (by rfl) 126 _ _ (by rfl) w.heap.size x.vals _ br (by rfl) (by rfl) (by rfl) (by kernel_rfl) (Entry.one _) ?_; rw [← HW2.out])
    | fail)
  refine ret_cells2 w.heap.size 0 x.vals (.bool (oneOk whole r)) Tryz.results150 Tryz.underlying126 rfl (by kernel_rfl) rfl rfl HL.out.1.range rfl ?_
  exact ⟨x, rfl, HL.out.2.2, HL.out.2.1⟩
end Go.Proofs.YtfjflkmhhbhceaaGreatDoor


/-
  Layer 8, walks: results with their lists: the program's Same. Conditions: machine lists.
-/
namespace Go.Proofs.YtfjflkmhhbhceaaGreatDoor
open Go.RowKit
attribute [local go_sem ↓] Go.wp_at_zero Go.wp_at_succ
attribute [local go_sem] rowAt_ptr rowOf_drew rowOf_drewN rowOf_alloc_past rowOf_new
/-- results with their lists -/
structure RepL where
  r : Reply
  es : List Entry
  us : List Int
structure RepL.There (x : RepL) (w : World) : Prop where
  ne : x.r.en = x.es.length
  nu : x.r.un = x.us.length
  le : x.es.length ≤ 9223372036854775807
  lu : x.us.length ≤ 9223372036854775807
  e : At w 15 x.r.ea (x.es.map Entry.vals)
  u : At w 1 x.r.ua (x.us.map int1)
theorem RepL.There.below {x : RepL} {w w' : World} (h : x.There w) (hb : Below w.heap.size w w') : x.There w' := ⟨h.ne, h.nu, h.le, h.lu, h.e.below hb, h.u.below hb⟩
/-- are they the same -/
def RepL.same (x y : RepL) : Bool := decide (x.es = y.es) && (decide (x.us = y.us) && decide (x.r.bare = y.r.bare))

end Go.Proofs.YtfjflkmhhbhceaaGreatDoor


/-
  How results that came in are read. No condition.
-/
namespace Go.Proofs.YtfjflkmhhbhceaaGreatDoor
open Go.ChangeShapes Go.WideShapes Go.ChangeAt Go.RowKit Go.Deep
section
variable {H : Type} {enc : TypeId × Value → H} {w : World} {base : Nat} {spare : Nat → Bool} {held : Bool} {fuel : Nat} {cs : List Value} {x : DataW H × List MemPlace}
instance : Inhabited Entry := ⟨⟨0, [], 0, postZ8, []⟩⟩
def RepL.vals (x : RepL) : List Value := x.r.vals
end
end Go.Proofs.YtfjflkmhhbhceaaGreatDoor
