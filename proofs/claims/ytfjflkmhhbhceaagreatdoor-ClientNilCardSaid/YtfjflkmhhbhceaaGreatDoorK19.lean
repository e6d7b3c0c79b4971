/-
  Layer 8, walks: what must come of fixed calls; the law ReplyFields. No condition.
-/
import Derived.Test.YtfjflkmhhbhceaaGreatDoorK17
import Derived.Test.YtfjflkmhhbhceaaGreatDoorK10
import Derived.Test.YtfjflkmhhbhceaaGreatDoorK18
import Derived.Test.YtfjflkmhhbhceaaGreatDoorK09
import Derived.Test.YtfjflkmhhbhceaaGreatDoorK13
import Derived.Test.YtfjflkmhhbhceaaGreatDoorK04
import Derived.Lib.SliceRun
import Derived.Test.YtfjflkmhhbhceaaGreatDoorK12
namespace Go.Proofs.YtfjflkmhhbhceaaGreatDoor
open Go.RowKit
attribute [local go_sem ↓] Go.wp_at_zero Go.wp_at_succ
attribute [local go_sem] rowAt_ptr rowOf_drew rowOf_drewN rowOf_alloc_past rowOf_new
attribute [local go_sem ↓] ldReply

attribute [local go_sem] Reply.at0 Reply.lat0 Reply.at1 Reply.lat1 Reply.at2 Reply.lat2 Reply.at3 Reply.lat3 Reply.at4 Reply.lat4 Reply.at5 Reply.lat5 Reply.at6 Reply.lat6 Reply.at7 Reply.lat7 Reply.at8 Reply.lat8 Reply.at9 Reply.lat9 Reply.at10 Reply.lat10 Reply.at11 Reply.lat11 Reply.at12 Reply.lat12 Reply.at13 Reply.lat13 Reply.at14 Reply.lat14 Reply.at15 Reply.lat15 Reply.at16 Reply.lat16 Reply.at17 Reply.lat17 Reply.at18 Reply.lat18 Reply.at19 Reply.lat19 Reply.at20 Reply.lat20 Reply.at21 Reply.lat21 Reply.at22 Reply.lat22 Reply.at23 Reply.lat23 Reply.at24 Reply.lat24 Reply.at25 Reply.lat25 Reply.at26 Reply.lat26 Reply.at27 Reply.lat27 Reply.at28 Reply.lat28 Reply.at29 Reply.lat29 Reply.at30 Reply.lat30 Reply.at31 Reply.lat31 Reply.at32 Reply.lat32 Reply.at33 Reply.lat33 Reply.at34 Reply.lat34 Reply.at35 Reply.lat35 Reply.at36 Reply.lat36 Reply.at37 Reply.lat37 Reply.at38 Reply.lat38 Reply.at39 Reply.lat39 Reply.at40 Reply.lat40 Reply.at41 Reply.lat41 Reply.at42 Reply.lat42 Reply.at43 Reply.lat43 Reply.at44 Reply.lat44 Reply.at45 Reply.lat45 Reply.at46 Reply.lat46 Reply.at47 Reply.lat47 Reply.at48 Reply.lat48 Reply.at49 Reply.lat49 Reply.at50 Reply.lat50 Reply.at51 Reply.lat51 Reply.at52 Reply.lat52 Reply.at53 Reply.lat53 Reply.at54 Reply.lat54 Reply.at55 Reply.lat55 Reply.at56 Reply.lat56 Reply.at57 Reply.lat57 Reply.sub0_58 Reply.lsub0_58 Reply.sub2_11 Reply.lsub2_11 Reply.sub3_10 Reply.lsub3_10 Reply.sub13_11 Reply.lsub13_11 Reply.sub14_10 Reply.lsub14_10 Reply.sub24_13 Reply.lsub24_13 Reply.sub24_2 Reply.lsub24_2 Reply.sub26_11 Reply.lsub26_11 Reply.sub27_10 Reply.lsub27_10 Reply.sub37_13 Reply.lsub37_13 Reply.sub37_2 Reply.lsub37_2 Reply.sub39_11 Reply.lsub39_11 Reply.sub40_10 Reply.lsub40_10 Reply.len

def r70 : Reply := ⟨70, [], postZ8, postZ8, ⟨⟨false, 0⟩, postZ8⟩, ⟨⟨false, 0⟩, postZ8⟩, 0, 0, false, [], 0, 0, none, 0, 0, none, 0, 0⟩
theorem pKnown70 : pKnown 70 = true := by decide
theorem pFields10 : pFields 1 false = [] := rfl
theorem pFields31 : pFields 3 true = [104, 97, 68] := rfl

end Go.Proofs.YtfjflkmhhbhceaaGreatDoor

/-
  Layer 8, walks: what must come of fixed calls; the law ReplyFields. No condition.
-/
namespace Go.Proofs.YtfjflkmhhbhceaaGreatDoor
open Go.RowKit
attribute [local go_sem ↓] Go.wp_at_zero Go.wp_at_succ
attribute [local go_sem] rowAt_ptr rowOf_drew rowOf_drewN rowOf_alloc_past rowOf_new
attribute [local go_sem ↓] ldReply

attribute [local go_sem] Reply.at0 Reply.lat0 Reply.at1 Reply.lat1 Reply.at2 Reply.lat2 Reply.at3 Reply.lat3 Reply.at4 Reply.lat4 Reply.at5 Reply.lat5 Reply.at6 Reply.lat6 Reply.at7 Reply.lat7 Reply.at8 Reply.lat8 Reply.at9 Reply.lat9 Reply.at10 Reply.lat10 Reply.at11 Reply.lat11 Reply.at12 Reply.lat12 Reply.at13 Reply.lat13 Reply.at14 Reply.lat14 Reply.at15 Reply.lat15 Reply.at16 Reply.lat16 Reply.at17 Reply.lat17 Reply.at18 Reply.lat18 Reply.at19 Reply.lat19 Reply.at20 Reply.lat20 Reply.at21 Reply.lat21 Reply.at22 Reply.lat22 Reply.at23 Reply.lat23 Reply.at24 Reply.lat24 Reply.at25 Reply.lat25 Reply.at26 Reply.lat26 Reply.at27 Reply.lat27 Reply.at28 Reply.lat28 Reply.at29 Reply.lat29 Reply.at30 Reply.lat30 Reply.at31 Reply.lat31 Reply.at32 Reply.lat32 Reply.at33 Reply.lat33 Reply.at34 Reply.lat34 Reply.at35 Reply.lat35 Reply.at36 Reply.lat36 Reply.at37 Reply.lat37 Reply.at38 Reply.lat38 Reply.at39 Reply.lat39 Reply.at40 Reply.lat40 Reply.at41 Reply.lat41 Reply.at42 Reply.lat42 Reply.at43 Reply.lat43 Reply.at44 Reply.lat44 Reply.at45 Reply.lat45 Reply.at46 Reply.lat46 Reply.at47 Reply.lat47 Reply.at48 Reply.lat48 Reply.at49 Reply.lat49 Reply.at50 Reply.lat50 Reply.at51 Reply.lat51 Reply.at52 Reply.lat52 Reply.at53 Reply.lat53 Reply.at54 Reply.lat54 Reply.at55 Reply.lat55 Reply.at56 Reply.lat56 Reply.at57 Reply.lat57 Reply.sub0_58 Reply.lsub0_58 Reply.sub2_11 Reply.lsub2_11 Reply.sub3_10 Reply.lsub3_10 Reply.sub13_11 Reply.lsub13_11 Reply.sub14_10 Reply.lsub14_10 Reply.sub24_13 Reply.lsub24_13 Reply.sub24_2 Reply.lsub24_2 Reply.sub26_11 Reply.lsub26_11 Reply.sub27_10 Reply.lsub27_10 Reply.sub37_13 Reply.lsub37_13 Reply.sub37_2 Reply.lsub37_2 Reply.sub39_11 Reply.lsub39_11 Reply.sub40_10 Reply.lsub40_10 Reply.len

theorem wrFresh8 (w : World) : Wr (w.alloc (.cells #[.slice none 0 0] 195)) w.heap.size (.slice none 0 0) [] := ⟨Blk.new _ _ _, World.ownsRow_nil _ _ _ _⟩
theorem num70 : num 70 4 = [0, 0, 0, 70] := by decide

end Go.Proofs.YtfjflkmhhbhceaaGreatDoor


/-
  Layer 8, walks: lists are the same. Conditions: machine lists.
-/
namespace Go.Proofs.YtfjflkmhhbhceaaGreatDoor
open Go.RowKit
attribute [local go_sem ↓] Go.wp_at_zero Go.wp_at_succ
attribute [local go_sem] rowAt_ptr rowOf_drew rowOf_drewN rowOf_alloc_past rowOf_new
theorem ldEntry {ρ : Operand → Value} {w : World} {dst : Option Tmp} {ty : TypeId} {pos : String} {after : Array Edge} {g : Option (Nat × Bool)} {x : Operand} (h : (rowAt w 15 (ρ x)).isSome = true) :
    (execOp ρ ⟨dst, .load 126 x, ty, pos, after, g⟩).run Tryz.prog w = .ok (.value (.agg ((rowAt w 15 (ρ x)).getD #[]))) w := ex_load 126 15 Tryz.underlying126 rfl (by kernel_rfl) h
attribute [local go_sem ↓] ldEntry

theorem guardEntry : Tryz.prog.eqGuardType Tryz.prog.depth 126 = false := by kernel_rfl
def lfEntry : List Leaf := [.i .i64, .s, .i .i64] ++ lfPost8 ++ [.s]
theorem leafsEntry : leafs Tryz.prog 8 126 = some lfEntry := by kernel_rfl
theorem Entry.inj8 {x y : Entry} (h : x.vals = y.vals) : x = y := by
  obtain ⟨_, _, _, ⟨_, ⟨_, _, _, _, _, _, _, _, _, _⟩⟩, _⟩ := x
  obtain ⟨_, _, _, ⟨_, ⟨_, _, _, _, _, _, _, _, _, _⟩⟩, _⟩ := y
  simp only [Entry.vals, Post.vals, Attr.vals, List.cons_append, List.nil_append, List.cons.injEq, Value.int.injEq, Value.bool.injEq, Value.string.injEq, true_and, and_true] at h
  obtain ⟨h0, h1, h2, h3, h4, h5, h6, h7, h8, h9, h10, h11, h12, h13, h14⟩ := h
  have h1 := bs_inj h1
  have h14 := bs_inj h14
  subst_vars
  rfl
theorem neqEntry (x y : Entry) (w : World) : (binOp .neq 126 (.agg x.vals.toArray) (.agg y.vals.toArray)).run Tryz.prog w = .ok (.bool (decide (x ≠ y))) w := by
  by_cases h : x = y
  · rw [neq_same leafsEntry (by kernel_rfl) w _ _ (by rfl) (by rw [h]), decide_eq_false (by simpa using h)]
  · rw [neq_other leafsEntry (by kernel_rfl) w _ _ (by rfl) (by rfl) (fun e => h (Entry.inj8 e)), decide_eq_true h]
attribute [local go_sem ↓] neqEntry

attribute [local go_sem] guardEntry

def int1 (n : Int) : List Value := [.int .i64 n]

theorem rowCell8 {α : Type} {w : World} {sz : Nat} {A : Option Addr} {l : List α} {vals : α → List Value} (hsz : ∀ x, (vals x).length = sz) (h0 : 0 < sz) (hA : At w sz A (l.map vals)) {k : Nat} (hk : k < l.length) :
    ∃ b off, A = some ⟨b, off, none⟩ ∧ b < w.heap.size ∧ rowOf w b (off + k * sz) sz = some (vals l[k]).toArray ∧ ∀ j u, (vals l[k])[j]? = some u → w.cell? ⟨b, off + k * sz + j, none⟩ = some u := by
  obtain ⟨b, off, rfl, hb, hc⟩ := hA.getD (k := k) (by simpa using hk)
  have hc2 : ∀ j u, (vals l[k])[j]? = some u → w.cell? ⟨b, off + k * sz + j, none⟩ = some u := fun j u hu => hc j u (by simpa using hu)
  exact ⟨b, off, rfl, hb, rowOf_of hc2 (hsz _) h0, hc2⟩
theorem takeSame8 {α : Type} {l m : List α} {k : Nat} (h : l.take k = m.take k) (hk : k < l.length) (hm : k < m.length) (he : l[k] = m[k]) : l.take (k + 1) = m.take (k + 1) := by
  rw [take_next _ _ hk, take_next _ _ hm, h, he]

end Go.Proofs.YtfjflkmhhbhceaaGreatDoor


/-
  Layer 8, walks: results with their lists: the program's Same. Conditions: machine lists.
-/
namespace Go.Proofs.YtfjflkmhhbhceaaGreatDoor
open Go.RowKit
attribute [local go_sem ↓] Go.wp_at_zero Go.wp_at_succ
attribute [local go_sem] rowAt_ptr rowOf_drew rowOf_drewN rowOf_alloc_past rowOf_new
/-- results with their lists -/
structure RepL where
  r : Reply
  es : List Entry
  us : List Int
structure RepL.There (x : RepL) (w : World) : Prop where
  ne : x.r.en = x.es.length
  nu : x.r.un = x.us.length
  le : x.es.length ≤ 9223372036854775807
  lu : x.us.length ≤ 9223372036854775807
  e : At w 15 x.r.ea (x.es.map Entry.vals)
  u : At w 1 x.r.ua (x.us.map int1)
theorem RepL.There.below {x : RepL} {w w' : World} (h : x.There w) (hb : Below w.heap.size w w') : x.There w' := ⟨h.ne, h.nu, h.le, h.lu, h.e.below hb, h.u.below hb⟩
/-- are they the same -/
def RepL.same (x y : RepL) : Bool := decide (x.es = y.es) && (decide (x.us = y.us) && decide (x.r.bare = y.r.bare))

end Go.Proofs.YtfjflkmhhbhceaaGreatDoor


/-
  slices.Clone of entries and of ints: a row of the call's own with the same elements. Conditions: lengths.
-/
namespace Go.Proofs.YtfjflkmhhbhceaaGreatDoor
open Go.RowKit
attribute [local go_sem ↓] Go.wp_at_zero Go.wp_at_succ
attribute [local go_sem] rowAt_ptr rowOf_drew rowOf_drewN rowOf_alloc_past rowOf_new
theorem infoEntryB : (Tryz.prog.info? 126).map (fun i => (i.zero, i.size, i.bytes)) = some (some (.agg (Entry.mk 0 [] 0 postZ8 []).vals.toArray), 15, 136) := by kernel_rfl
theorem infoIntB : (Tryz.prog.info? 3).map (fun i => (i.zero, i.size, i.bytes)) = some (some (.int .i64 0), 1, 8) := by kernel_rfl

theorem flat_len {sz : Nat} : ∀ (rows : List (List Value)), (∀ r ∈ rows, r.length = sz) → rows.flatten.length = rows.length * sz
  | [], _ => by simp
  | r :: rows, h => by
    rw [List.flatten_cons, List.length_append, h r (by simp), flat_len rows (fun q hq => h q (List.mem_cons_of_mem _ hq)), List.length_cons, Nat.succ_mul]
    omega
/-- the cells of rows that lie somewhere, as one list -/
theorem At.flat {w : World} {sz : Nat} {A : Addr} {rows : List (List Value)} (h : At w sz (some A) rows) (hl : ∀ r ∈ rows, r.length = sz) (h0 : 0 < sz) : ∀ j u, rows.flatten[j]? = some u → w.cell? (A.add j) = some u := by
  intro j u hj
  have hlen : rows.flatten.length = rows.length * sz := by
    have := flat_len rows hl
    exact this
  have hj2 := (List.getElem?_eq_some_iff.1 hj).1
  rw [hlen] at hj2
  have hq : j / sz < rows.length := (Nat.div_lt_iff_lt_mul h0).2 hj2
  obtain ⟨b, off, hA, hb, hc⟩ := h.getD hq
  have hdm : j / sz * sz + j % sz = j := Nat.div_add_mod' j sz
  have hm : j % sz < sz := Nat.mod_lt _ h0
  have hrl := hl _ (List.getElem_mem hq)
  have hg := flat_get rows hl (j / sz) _ (List.getElem?_eq_getElem hq) (j % sz) _ (List.getElem?_eq_getElem (by omega))
  rw [hdm] at hg
  rw [hg] at hj
  cases hj
  have := hc (j % sz) _ (List.getElem?_eq_getElem (by omega))
  injection hA with hA
  subst hA
  rw [Addr.add_mid, show off + j = off + j / sz * sz + j % sz by omega]
  exact this

set_option maxRecDepth 20000 in
set_option maxHeartbeats 800000 in
theorem cloneE_any (A : Option Addr) (c : Nat) (l : List Entry) (w : World) (hl : l.length ≤ 1000000) (hA : At w 15 A (l.map Entry.vals)) :
    Calls Tryz.prog 107 #[.slice A l.length c] w fun e w' => ∃ v, e = .returned v ∧ RowS w' w.heap.size 126 15 v (l.map Entry.vals) ∧ Below w.heap.size w w' := by
  obtain ⟨i0, hi, hz, hsize, hby⟩ := info_parts infoEntryB
  have q22 : ∀ (w : World) (a : Option Addr) (n c n' c' : Nat), (binOp .eql 48 (.slice a n c) (.slice none n' c')).run Tryz.prog w = .ok (.bool a.isNone) w := fun w a n c n' c' => Lib.run_eql_slice_nil w _ _ a n c n' c' Tryz.underlying48
  have hlen : ∀ r ∈ l.map Entry.vals, r.length = 15 := by
    intro r hr; obtain ⟨x, _, rfl⟩ := List.mem_map.1 hr; rfl
  cases A with
  | none =>
    have h0 : l = [] := by
      cases l with
      | nil => rfl
      | cons x l => obtain ⟨b, off, h, _⟩ := hA 0 x.vals (by simp); cases h
    subst h0
    go_enter Tryz.func107, Tryz.ntmps107
    go_wp2
    go_ret
    exact ⟨_, rfl, RowS.none_, Below.refl _ _⟩
  | some A =>
    have hcell := hA.flat hlen (by omega)
    have hfl := flat_len _ hlen
    rw [List.length_map] at hfl
    have H := Lib.hid (And.intro hcell (And.intro hlen hfl))
    clear hcell hlen hfl hA
    go_enter Tryz.func107, Tryz.ntmps107
    go_wp2_with (at_builtin; refine wpList_append_own _ rfl _ _ 48 rfl w.heap.size 126 i0 (.agg (Entry.mk 0 [] 0 postZ8 []).vals.toArray) 15 136 Tryz.underlying48 hi hz hsize hby rfl (by decide) _ _ _ rfl (World.ownsRow_made w #[] 0 (Nat.le_refl _) (Nat.zero_le _) rfl) A l.length c (l.map Entry.vals).flatten rfl ?qc1 ?qc2 ?qc3 ?qc4 ?qc5 ?qc6 ?_)
    case qc1 => exact H.out.2.2
    case qc2 => exact fun j u hj => Lib.cell?_alloc_some _ (H.out.1 j u hj)
    case qc3 =>
      intro u hu
      obtain ⟨r, hr, hu⟩ := List.mem_flatten.1 hu
      obtain ⟨x, _, rfl⟩ := List.mem_map.1 hr
      exact x.one u hu
    case qc4 => unfold maxLen; omega
    case qc5 => omega
    case qc6 => simp
    intro v' w1 hown hgrow hnil
    go_wp2
    go_ret
    refine ⟨v', rfl, ⟨H.out.2.1, ?_⟩, ?_⟩
    · rw [List.length_map]
      simpa using hown
    · exact ((Below.refl _ w).alloc (Nat.le_refl _) _).grown hgrow (by simp) (by intro k hk; simp [Value.ownBlock] at hk; omega)

set_option maxRecDepth 20000 in
set_option maxHeartbeats 800000 in
theorem cloneI_any (A : Option Addr) (c : Nat) (l : List Int) (w : World) (hl : l.length ≤ 1000000) (hA : At w 1 A (l.map int1)) :
    Calls Tryz.prog 108 #[.slice A l.length c] w fun e w' => ∃ v, e = .returned v ∧ RowS w' w.heap.size 3 1 v (l.map int1) ∧ Below w.heap.size w w' := by
  obtain ⟨i0, hi, hz, hsize, hby⟩ := info_parts infoIntB
  have q22 : ∀ (w : World) (a : Option Addr) (n c n' c' : Nat), (binOp .eql 49 (.slice a n c) (.slice none n' c')).run Tryz.prog w = .ok (.bool a.isNone) w := fun w a n c n' c' => Lib.run_eql_slice_nil w _ _ a n c n' c' Tryz.underlying49
  have hlen : ∀ r ∈ l.map int1, r.length = 1 := by
    intro r hr; obtain ⟨x, _, rfl⟩ := List.mem_map.1 hr; rfl
  cases A with
  | none =>
    have h0 : l = [] := by
      cases l with
      | nil => rfl
      | cons x l => obtain ⟨b, off, h, _⟩ := hA 0 (int1 x) (by simp); cases h
    subst h0
    go_enter Tryz.func108, Tryz.ntmps108
    go_wp2
    go_ret
    exact ⟨_, rfl, RowS.none_, Below.refl _ _⟩
  | some A =>
    have hcell := hA.flat hlen (by omega)
    have hfl := flat_len _ hlen
    rw [List.length_map] at hfl
    have H := Lib.hid (And.intro hcell (And.intro hlen hfl))
    clear hcell hlen hfl hA
    go_enter Tryz.func108, Tryz.ntmps108
    go_wp2_with (at_builtin; refine wpList_append_own _ rfl _ _ 49 rfl w.heap.size 3 i0 (.int .i64 0) 1 8 Tryz.underlying49 hi hz hsize hby rfl (by decide) _ _ _ rfl (World.ownsRow_made w #[] 0 (Nat.le_refl _) (Nat.zero_le _) rfl) A l.length c (l.map int1).flatten rfl ?qc1 ?qc2 ?qc3 ?qc4 ?qc5 ?qc6 ?_)
    case qc1 => exact H.out.2.2
    case qc2 => exact fun j u hj => Lib.cell?_alloc_some _ (H.out.1 j u hj)
    case qc3 =>
      intro u hu
      obtain ⟨r, hr, hu⟩ := List.mem_flatten.1 hu
      obtain ⟨x, _, rfl⟩ := List.mem_map.1 hr
      simp [int1] at hu
      subst hu
      rfl
    case qc4 => unfold maxLen; omega
    case qc5 => omega
    case qc6 => simp
    intro v' w1 hown hgrow hnil
    go_wp2
    go_ret
    refine ⟨v', rfl, ⟨H.out.2.1, ?_⟩, ?_⟩
    · rw [List.length_map]
      simpa using hown
    · exact ((Below.refl _ w).alloc (Nat.le_refl _) _).grown hgrow (by simp) (by intro k hk; simp [Value.ownBlock] at hk; omega)
theorem cloneE_at (A : Option Addr) (c : Nat) (l : List Entry) (w : World) (hl : l.length ≤ 1000000) (hA : At w 15 A (l.map Entry.vals)) :
    Calls Tryz.prog 107 #[.slice A l.length c] w fun e w' => ∃ A' c', e = .returned (.slice A' l.length c') ∧ RowS w' w.heap.size 126 15 (.slice A' l.length c') (l.map Entry.vals) ∧ Below w.heap.size w w' := by
  refine (cloneE_any A c l w hl hA).mono ?_
  rintro e w' ⟨v, rfl, hR, hb⟩
  obtain ⟨A', c', rfl, -⟩ := hR.at_
  rw [List.length_map] at hR ⊢
  exact ⟨A', c', rfl, hR, hb⟩
theorem cloneI_at (A : Option Addr) (c : Nat) (l : List Int) (w : World) (hl : l.length ≤ 1000000) (hA : At w 1 A (l.map int1)) :
    Calls Tryz.prog 108 #[.slice A l.length c] w fun e w' => ∃ A' c', e = .returned (.slice A' l.length c') ∧ RowS w' w.heap.size 3 1 (.slice A' l.length c') (l.map int1) ∧ Below w.heap.size w w' := by
  refine (cloneI_any A c l w hl hA).mono ?_
  rintro e w' ⟨v, rfl, hR, hb⟩
  obtain ⟨A', c', rfl, -⟩ := hR.at_
  rw [List.length_map] at hR ⊢
  exact ⟨A', c', rfl, hR, hb⟩
end Go.Proofs.YtfjflkmhhbhceaaGreatDoor


/-
  Layer 8, walks: how numbers are taken. Condition: texts of Go's length.
-/
namespace Go.Proofs.YtfjflkmhhbhceaaGreatDoor
open Go.RowKit
attribute [local go_sem ↓] Go.wp_at_zero Go.wp_at_succ
attribute [local go_sem] rowAt_ptr rowOf_drew rowOf_drewN rowOf_alloc_past rowOf_new

set_option maxHeartbeats 800000 in
theorem taken1_any (g h : Nat) (r : Rs) (w : World) (hR : Rd w g r) (hH : Blk w h 167 [.pointer (some ⟨g, 0, none⟩)]) (hl : r.s.length ≤ 9223372036854775807) :
    Calls Tryz.prog 148 #[.pointer (some ⟨h, 0, none⟩)] w fun e w' => e = .returned (.tuple #[.int .i64 (rU64 r).1, .bool ((rU64 r).2.e == 0)]) ∧ Reads g (rU64 r).2 w w' := by
  have c1 : w.cell? ⟨h, 0, none⟩ = some (.pointer (some ⟨g, 0, none⟩)) := hH.cell 0
  have hne := hH.ne_ hR.1 (by decide)
  have hlt := hH.lt
  have K := Lib.hid (rU64_any g r w.drew (Rd.drewQ hR) hl)
  clear hH hR
  generalize rU64 r = y at *
  obtain ⟨n, q⟩ := y
  go_enter Tryz.func148, Tryz.ntmps148
  go_wp2_with fail
  go_region_held3 (fun W => StQ g w W) (with_reducible first | assumption | exact StQ.start | (refine StQ.call ?_ hT; first | assumption | exact StQ.start)) (first
    | (go_at_call 145; refine K.out.mono ?_; rintro e w1 ⟨rfl, hQ⟩; have hT := hQ.2)
    | (go_at_call 100; refine (rErr_any g q _ hQ.1).mono ?_; rintro e w2 ⟨rfl, rfl⟩))
  all_goals
    have HQ := Lib.hid hQ
    clear hQ hT
    go_wp2
    go_ret2
    exact ⟨rfl, HQ.out.1, (Touch.refl _ _).drew.then_ HQ.out.2⟩
theorem numsK_len {r : Rs} (h : r.s.length ≤ 9223372036854775807) : ∀ k, (numsK r k).2.s.length ≤ 9223372036854775807
  | 0 => h
  | k + 1 => Nat.le_trans (rU64_len (numsK_len h k)) (numsK_len h k)
theorem numsK_one (r : Rs) : ∀ k, (numsK r k).1.length = k
  | 0 => rfl
  | k + 1 => by simp [numsK, numsK_one r k]
theorem rU64_stick8 {r : Rs} (h : r.e ≠ 0) : (rU64 r).2.e ≠ 0 := by
  have h1 : rNum 8 r = (0, r) := rNum_err h
  unfold rU64
  rw [h1]
  simpa using h
theorem numsK_stick {r : Rs} {k : Nat} (h : (numsK r k).2.e ≠ 0) : ∀ m, k ≤ m → (numsK r m).2.e ≠ 0 := by
  intro m hm
  induction m with
  | zero => obtain rfl : k = 0 := by omega
            exact h
  | succ m ih =>
    by_cases hk : k = m + 1
    · subst hk; exact h
    · exact rU64_stick8 (ih (by omega))
/-- what 'some' gives: a row of the call's own, or nil and false -/
def SomeP {α : Type} (T : TypeId) (sz : Nat) (vals : α → List Value) (ok : Bool) (l : List α) (g : Nat) (q : Rs) (w : World) (e : Ending) (w' : World) : Prop :=
  ∃ v, e = .returned (.tuple #[v, .bool ok]) ∧ (ok = true → RowS w' w.heap.size T sz v (l.map vals) ∧ Rd w' g q) ∧ (ok = false → v = .slice none 0 0) ∧ Touch (fun k => k = g) w w'
theorem Rd.belowQ {w w' : World} {g B : Nat} {r : Rs} (h : Rd w g r) (hb : Below B w w') (hg : g < B) : Rd w' g r := ⟨h.1.below hb hg, h.2⟩
theorem Touch.belowQ {F : Nat → Prop} {w W W' : World} (h : Touch F w W) (hb : Below w.heap.size W W') : Touch F w W' :=
  ⟨hb.os.trans h.os, hb.tape.trans h.tape, hb.output.trans h.output, Nat.le_trans h.size hb.size, fun k hk hn => (hb.block k hk).trans (h.block k hk hn)⟩
def numsOk (r : Rs) : Bool := decide ((rU32 r).1 ≤ 16) && ((numsK (rU32 r).2 (rU32 r).1).2.e == 0)

set_option maxRecDepth 20000 in
set_option maxHeartbeats 1600000 in
theorem someI_any (g h : Nat) (r : Rs) (w : World) (hR : Rd w g r) (hH : Blk w h 167 [.pointer (some ⟨g, 0, none⟩)]) (hl : r.s.length ≤ 9223372036854775807) :
    Calls Tryz.prog 147 #[.pointer (some ⟨g, 0, none⟩), .int .i64 16, .func (.func 148) #[] #[.pointer (some ⟨h, 0, none⟩)]] w
      (SomeP 3 1 int1 (numsOk r) (numsK (rU32 r).2 (rU32 r).1).1 g (numsK (rU32 r).2 (rU32 r).1).2 w) := by
  obtain ⟨i0, hi, hz, hsize, hby⟩ := info_parts infoIntB
  have K := Lib.hid (rU32_any g r w hR hl)
  have hq := Nat.le_trans (rU32_len hl) hl
  have hne := hH.ne_ hR.1 (by decide)
  have hgl := hR.lt
  have hhl := hH.lt
  unfold numsOk
  clear hR hl
  generalize rU32 r = y at *
  obtain ⟨n, q⟩ := y
  simp only at hq ⊢
  by_cases hn : 16 < n
  · have hn' : (16 : Int) < n := by omega
    have HO := Lib.hid (show (decide (n ≤ 16) && ((numsK q n).2.e == 0)) = false by simp; omega)
    go_enter Tryz.func147, Tryz.ntmps147
    go_wp2_with fail
    refine K.out.mono ?_
    rintro e w1 ⟨rfl, hQ⟩
    have HQ := Lib.hid hQ
    clear hQ
    go_wp2
    go_ret2
    rw [HO.out]
    refine ⟨.slice none 0 0, rfl, fun h => ?_, fun _ => rfl, HQ.out.2⟩
    exact absurd h (by simp)
  have hn' : ¬ (16 : Int) < n := by omega
  have HLEN := Lib.hid (numsK_len hq)
  go_enter Tryz.func147, Tryz.ntmps147
  go_wp2_with fail
  refine K.out.mono ?_
  rintro e w1 ⟨rfl, hQ⟩
  have hH1 := hH.touch hQ.2 hne
  have HQ := Lib.hid hQ
  clear hQ hH
  go_wp2
  go_loopw [9, 18] (fun v i wr => ∃ k, k ≤ n ∧ i = .int .i64 k ∧ RowS wr w.heap.size 3 1 v ((numsK q k).1.map int1) ∧ Rd wr g (numsK q k).2 ∧ (0 < k → (numsK q k).2.e = 0) ∧ (k = 0 → v = .slice none 0 0) ∧ Blk wr h 167 [.pointer (some ⟨g, 0, none⟩)] ∧ Touch (fun k => k = g) w wr) (fun _ i _ => n - (intOf i).toNat)
  case atStart => exact ⟨0, by omega, rfl, RowS.none_, HQ.out.1, fun h => by omega, fun _ => rfl, hH1, HQ.out.2⟩
  case round =>
    obtain ⟨k, hk, rfl, hRow, hR, he, hv0, hH, hT⟩ := hrel
    have hgw := hR.lt
    have hsz := hT.size
    by_cases hlt : k < n
    · have hlt' : (k : Int) < n := by omega
      have KT := Lib.hid (taken1_any g h _ wr hR hH (HLEN.out k))
      have hs1 : numsK q (k + 1) = ((numsK q k).1 ++ [((rU64 (numsK q k).2).1 : Int)], (rU64 (numsK q k).2).2) := rfl
      have hone := numsK_one q k
      have HST := Lib.hid (numsK_stick (r := q) (k := k + 1))
      rw [hs1] at HST
      clear hR
      generalize rU64 (numsK q k).2 = z at *
      obtain ⟨x, q1⟩ := z
      simp only at hs1 HST
      by_cases he1 : q1.e = 0
      · have he2 : (q1.e == 0) = true := by simpa using he1
        rw [he2] at KT
        go_wp2_with fail
        refine KT.out.mono ?_
        rintro e w2 ⟨rfl, hQ2⟩
        have hRow2 := RowS.touch hRow hQ2.2 (fun j hj hg => by have := (RowS.lt hRow j hj).1; omega)
        have hH2 := hH.touch hQ2.2 hne
        have hT2 := hT.then_ hQ2.2
        have hz2 := hT2.size
        have hap := RowS.append (P := Tryz.prog) 49 49 i0 Tryz.underlying49 hi hz hsize hby rfl (by omega) (by omega) hRow2 (by omega) (int1 (x : Int)) rfl (by simp [int1, Value.oneCell']) (by rw [List.length_map, hone]; omega)
        have HA := Lib.hid hap
        have HK := Lib.hid (And.intro hQ2.1 (And.intro hH2 hT2))
        have HS := Lib.hid hs1
        have hiw : IntKind.i64.wrap ((k : Int) + 1) = (k : Int) + 1 := IntWalk.i64_in _ (by omega)
        clear hap hQ2 hH2 hT2 hRow2 hRow hH hT hs1 hv0 KT
        go_wp2_with (first
          | (refine wpList_append_by (by rfl) (.tmp 27) (.tmp 29) #[49, 49] (by rfl) _ _ (by rfl) (by rfl) HA.out ?_; rintro v' w' ⟨hR', hb'⟩)
          | fail)
        have hb1 := hb' w2 (Below.refl _ _)
        have HR := Lib.hid hR'
        have HQ2 := Lib.hid (Rd.belowQ HK.out.1 hb1 (by omega))
        have HH := Lib.hid (HK.out.2.1.below hb1 (by omega))
        have HT := Lib.hid (HK.out.2.2.belowQ hb1)
        clear hR' hb' hb1 HK HA
        go_roundw
        case rel => exact ⟨k + 1, by omega, by go_num, by rw [HS.out, List.map_append]; exact HR.out, by rw [HS.out]; exact HQ2.out, fun _ => by rw [HS.out]; exact he1, fun h => by omega, HH.out, HT.out⟩
        case measure => simp [intOf]; omega
      · have he2 : (q1.e == 0) = false := by simpa using he1
        rw [he2] at KT
        have HO := Lib.hid (show (decide (n ≤ 16) && ((numsK q n).2.e == 0)) = false by have := HST.out he1 n (by omega); simp [this])
        go_wp2_with fail
        refine KT.out.mono ?_
        rintro e w2 ⟨rfl, hQ2⟩
        have HT := Lib.hid (hT.then_ hQ2.2)
        clear hQ2 hRow hH hT KT
        go_wp2
        go_ret2
        rw [HO.out]
        refine ⟨.slice none 0 0, rfl, fun h => ?_, fun _ => rfl, HT.out⟩
        exact absurd h (by simp)
    · obtain rfl : k = n := by omega
      have HR := Lib.hid hRow
      have HQ2 := Lib.hid hR
      have HT := Lib.hid hT
      have HV := Lib.hid hv0
      have HE := Lib.hid he
      obtain ⟨Q, hQd⟩ : ∃ Q, Q = (numsK q k).2 := ⟨_, rfl⟩
      rw [← hQd] at HQ2 HE
      clear hRow hH hT hv0 he
      go_wp2_with fail
      refine (rErr_any g Q _ HQ2.out).mono ?_
      rintro e w2 ⟨rfl, rfl⟩
      by_cases hQe : Q.e = 0
      · have hQe2 : (Q.e == 0) = true := by simpa using hQe
        have HO := Lib.hid (show (decide (k ≤ 16) && ((numsK q k).2.e == 0)) = true by rw [← hQd]; simp [hQe]; omega)
        rw [hQe]
        go_wp2
        go_ret2
        rw [HO.out, ← hQd]
        refine ⟨_, rfl, fun _ => ⟨HR.out, HQ2.out⟩, fun h => ?_, HT.out⟩
        exact absurd h (by simp)
      · have hk0 : k = 0 := by
          rcases Nat.eq_zero_or_pos k with h | h
          · exact h
          · exact absurd (HE.out h) hQe
        have HO := Lib.hid (show (decide (k ≤ 16) && ((numsK q k).2.e == 0)) = false by rw [← hQd]; simp [hQe])
        have hv := HV.out hk0
        subst hv
        have hQe2 : (Q.e == 0) = false := by simpa using hQe
        go_wp2
        go_ret2
        rw [HO.out]
        refine ⟨.slice none 0 0, ?_, fun h => ?_, fun _ => rfl, HT.out⟩
        · simp
          intro h
          exact hQe (by rw [hQd, hk0]; exact h)
        · exact absurd h (by simp)
end Go.Proofs.YtfjflkmhhbhceaaGreatDoor


/-
  Layer 8, walks: a reply's Clone. Conditions: lengths.
-/
namespace Go.Proofs.YtfjflkmhhbhceaaGreatDoor
open Go.RowKit
attribute [local go_sem ↓] Go.wp_at_zero Go.wp_at_succ
attribute [local go_sem] rowAt_ptr rowOf_drew rowOf_drewN rowOf_alloc_past rowOf_new
attribute [local go_sem ↓] ldReply

attribute [local go_sem] Reply.at0 Reply.lat0 Reply.at1 Reply.lat1 Reply.at2 Reply.lat2 Reply.at3 Reply.lat3 Reply.at4 Reply.lat4 Reply.at5 Reply.lat5 Reply.at6 Reply.lat6 Reply.at7 Reply.lat7 Reply.at8 Reply.lat8 Reply.at9 Reply.lat9 Reply.at10 Reply.lat10 Reply.at11 Reply.lat11 Reply.at12 Reply.lat12 Reply.at13 Reply.lat13 Reply.at14 Reply.lat14 Reply.at15 Reply.lat15 Reply.at16 Reply.lat16 Reply.at17 Reply.lat17 Reply.at18 Reply.lat18 Reply.at19 Reply.lat19 Reply.at20 Reply.lat20 Reply.at21 Reply.lat21 Reply.at22 Reply.lat22 Reply.at23 Reply.lat23 Reply.at24 Reply.lat24 Reply.at25 Reply.lat25 Reply.at26 Reply.lat26 Reply.at27 Reply.lat27 Reply.at28 Reply.lat28 Reply.at29 Reply.lat29 Reply.at30 Reply.lat30 Reply.at31 Reply.lat31 Reply.at32 Reply.lat32 Reply.at33 Reply.lat33 Reply.at34 Reply.lat34 Reply.at35 Reply.lat35 Reply.at36 Reply.lat36 Reply.at37 Reply.lat37 Reply.at38 Reply.lat38 Reply.at39 Reply.lat39 Reply.at40 Reply.lat40 Reply.at41 Reply.lat41 Reply.at42 Reply.lat42 Reply.at43 Reply.lat43 Reply.at44 Reply.lat44 Reply.at45 Reply.lat45 Reply.at46 Reply.lat46 Reply.at47 Reply.lat47 Reply.at48 Reply.lat48 Reply.at49 Reply.lat49 Reply.at50 Reply.lat50 Reply.at51 Reply.lat51 Reply.at52 Reply.lat52 Reply.at53 Reply.lat53 Reply.at54 Reply.lat54 Reply.at55 Reply.lat55 Reply.at56 Reply.lat56 Reply.at57 Reply.lat57 Reply.sub0_58 Reply.lsub0_58 Reply.sub2_11 Reply.lsub2_11 Reply.sub3_10 Reply.lsub3_10 Reply.sub13_11 Reply.lsub13_11 Reply.sub14_10 Reply.lsub14_10 Reply.sub24_13 Reply.lsub24_13 Reply.sub24_2 Reply.lsub24_2 Reply.sub26_11 Reply.lsub26_11 Reply.sub27_10 Reply.lsub27_10 Reply.sub37_13 Reply.lsub37_13 Reply.sub37_2 Reply.lsub37_2 Reply.sub39_11 Reply.lsub39_11 Reply.sub40_10 Reply.lsub40_10 Reply.len

set_option maxRecDepth 20000 in
set_option maxHeartbeats 1600000 in
theorem clone8_any (x : RepL) (w : World) (hx : x.There w) (h1 : x.es.length ≤ 1000000) (h2 : x.us.length ≤ 1000000) :
    Calls Tryz.prog 50 #[.agg x.r.vals.toArray] w fun e w' => ∃ r : Reply, e = .returned (.agg r.vals.toArray) ∧ r.bare = x.r.bare ∧ (RepL.mk r x.es x.us).There w' ∧ RowS w' w.heap.size 126 15 (.slice r.ea r.en r.ec) (x.es.map Entry.vals) ∧ RowS w' w.heap.size 3 1 (.slice r.ua r.un r.uc) (x.us.map int1) ∧ Below w.heap.size w w' := by
  obtain ⟨x, l, p⟩ := x
  obtain ⟨ne, nu, le, lu, hAe, hAu⟩ := hx
  simp only at ne nu le lu hAe hAu h1 h2 ⊢
  obtain ⟨hX, hZ, hB, -⟩ := chain2_blks w x.vals replyZ.vals 51 51
  obtain ⟨w1, hw1⟩ : ∃ u, u = (w.alloc (.cells x.vals.toArray 51)).alloc (.cells replyZ.vals.toArray 51) := ⟨_, rfl⟩
  rw [← hw1] at hX hZ hB
  have HW1 := Lib.hid hw1
  have hAe1 := hAe.below hB
  have e56 : x.vals[56]? = some (.slice x.ea l.length x.ec) := by rw [← ne]; rfl
  have e57 : x.vals[57]? = some (.slice x.ua p.length x.uc) := by rw [← nu]; rfl
  have a56 : w1.cell? ⟨w.heap.size, 56, none⟩ = some (.slice x.ea l.length x.ec) := (hX.cell 56).trans e56
  have H := Lib.hid (And.intro hX (And.intro hZ (And.intro hB (And.intro e57 (And.intro ne nu)))))
  clear hX hZ hB hw1 e56 e57 ne nu
  go_enter Tryz.func50, Tryz.ntmps50
  go_upto_region 1 with fail
  change Code.wp _ _ _ _ ((w.alloc (.cells x.vals.toArray 51)).alloc (.cells replyZ.vals.toArray 51))
  rw [← HW1.out]
  clear HW1
  go_upto_region 2 with (first
    | (go_at_call 107; refine (cloneE_at x.ea x.ec l w1 h1 hAe1).mono ?_; rintro e w2 ⟨A, c, rfl, hR, hb⟩; have hX2 := (H.out.1.stays hb).cell 56; have hf2 := (H.out.1.stays hb).frozen 56)
    | fail)
  obtain ⟨hX, hZ, hB, e57, ne, nu⟩ := H.out
  have hX3 := (hX.stays hb).set_ 56 (.slice A l.length c)
  have hlz : w.heap.size < w.heap.size + 1 := by omega
  have hB1 : w.heap.size + 1 < w1.heap.size := hZ.lt
  have hZ3 := (hZ.stays hb).far (p := ⟨w.heap.size, 56, none⟩) (by simp) (.slice A l.length c)
  have hT3 : Touch (fun k => k = w.heap.size) w2 (w2.setCell ⟨w.heap.size, 56, none⟩ (.slice A l.length c)) := (Touch.refl (fun k => k = w.heap.size) w2).setCell (p := ⟨w.heap.size, 56, none⟩) (.inl rfl) (.slice A l.length c)
  have hR3 := hR.touch hT3 (fun k hk => by have := (hR.lt k hk).1; omega)
  have hB3 : Below w.heap.size w (w2.setCell ⟨w.heap.size, 56, none⟩ (.slice A l.length c)) := ((hB.trans (hb.mono (by omega)))).trans (hT3.below (fun k _ h => by omega) (by have := hb.size; omega))
  clear hX hZ hB hT3 hR hX2 hf2 a56 hAe1
  generalize w2.setCell ⟨w.heap.size, 56, none⟩ (.slice A l.length c) = w3 at *
  have hAu3 := hAu.below hB3
  have a57 : w3.cell? ⟨w.heap.size, 57, none⟩ = some (.slice x.ua p.length x.uc) := by rw [hX3.cell 57]; exact e57
  have H3 := Lib.hid (And.intro hX3 (And.intro hZ3 (And.intro hR3 hB3)))
  clear hX3 hZ3 hR3 hB3 e57 H hb hlz
  go_upto_region 3 with (first
    | (go_at_call 108; refine (cloneI_at x.ua x.uc p w3 h2 hAu3).mono ?_; rintro e w4 ⟨U, d, rfl, hU, hb⟩; have hX4 := (H3.out.1.stays hb).cell 57; have hf4 := (H3.out.1.stays hb).frozen 57)
    | fail)
  obtain ⟨hX3, hZ3, hR3, hB3⟩ := H3.out
  have hX5 := (hX3.stays hb).set_ 57 (.slice U p.length d)
  have hZ5 := (hZ3.stays hb).far (p := ⟨w.heap.size, 57, none⟩) (by simp) (.slice U p.length d)
  have hltz := hZ3.lt
  have hT5 : Touch (fun k => k = w.heap.size) w4 (w4.setCell ⟨w.heap.size, 57, none⟩ (.slice U p.length d)) := (Touch.refl (fun k => k = w.heap.size) w4).setCell (p := ⟨w.heap.size, 57, none⟩) (.inl rfl) (.slice U p.length d)
  have hU5 := hU.touch hT5 (fun k hk => by have := (hU.lt k hk).1; omega)
  have hR5 := (hR3.stays hb).touch hT5 (fun k hk => by have := (hR3.lt k hk).1; omega)
  have hB5 : Below w.heap.size w (w4.setCell ⟨w.heap.size, 57, none⟩ (.slice U p.length d)) := ((hB3.trans (hb.mono (by omega)))).trans (hT5.below (fun k _ h => by omega) (by have := hb.size; omega))
  clear hX3 hZ3 hT5 hU hX4 hf4 a57 hAu3 hR3 hB3
  generalize w4.setCell ⟨w.heap.size, 57, none⟩ (.slice U p.length d) = w5 at *
  obtain ⟨r, hr⟩ : ∃ r : Reply, r = { x with ea := A, en := l.length, ec := c, ua := U, un := p.length, uc := d } := ⟨_, rfl⟩
  have hrv : (x.vals.set 56 (.slice A l.length c)).set 57 (.slice U p.length d) = r.vals := by rw [hr]; rfl
  rw [hrv] at hX5
  have hrow : rowOf w5 w.heap.size 0 58 = some r.vals.toArray := rowOf_of hX5.range (Reply.len r) (by omega)
  have hT6 : Touch (fun k => k = w.heap.size + 1) w5 (w5.setCells (w.heap.size + 1) 0 r.vals) := Touch.setRow (F := fun k => k = w.heap.size + 1) rfl _ _ (Touch.refl _ _)
  have hR6 := hR5.touch hT6 (fun k hk => by have := (hR5.lt k hk).1; omega)
  have hU6 := hU5.touch hT6 (fun k hk => by have := (hU5.lt k hk).1; omega)
  have hB6 : Below w.heap.size w (w5.setCells (w.heap.size + 1) 0 r.vals) := hB5.trans (hT6.below (fun k _ h => by omega) (by have := hZ5.lt; omega))
  have H6 := Lib.hid (And.intro hR6 (And.intro hU6 hB6))
  have HR := Lib.hid (show r.bare = x.bare ∧ r.ea = A ∧ r.en = l.length ∧ r.ec = c ∧ r.ua = U ∧ r.un = p.length ∧ r.uc = d from by subst hr; exact ⟨rfl, rfl, rfl, rfl, rfl, rfl, rfl⟩)
  clear hr
  clear hT6 hR6 hU6 hB6 hR5 hU5 hX5 hrv hB5 hAe hAu
  go_wp2_with (first | (refine wpList_store_whole (by rfl) 51 _ _ (by rfl) (w.heap.size + 1) r.vals _ hZ5 (by rfl) (by rfl) (by rfl) (by kernel_rfl) (Reply.one _) ?_) | fail)
  refine ret_cells (w.heap.size + 1) 0 r.vals Tryz.results50 Tryz.underlying51 rfl (by kernel_rfl) rfl (hZ5.whole (by rfl)).range rfl ?_
  obtain ⟨q0, q1, q2, q3, q4, q5, q6⟩ := HR.out
  obtain ⟨hR6, hU6, hB6⟩ := H6.out
  obtain ⟨A', c', hA', hAt⟩ := hR6.at_
  obtain ⟨U', d', hU', hUt⟩ := hU6.at_
  injection hA' with hA1
  injection hU' with hU1
  subst hA1 hU1
  have hTh : (RepL.mk r l p).There (w5.setCells (w.heap.size + 1) 0 r.vals) := ⟨q2, q5, le, lu, by rw [q1]; exact hAt, by rw [q4]; exact hUt⟩
  have hb3 := hltz
  have hRr := hR6.base (C := w.heap.size) (by omega)
  rw [← q1, ← q2, ← q3] at hRr
  have hUr := hU6.base (C := w.heap.size) (by have := hB1; have := hb3; omega)
  rw [← q4, ← q5, ← q6] at hUr
  exact ⟨r, rfl, q0, hTh, hRr, hUr, hB6⟩
end Go.Proofs.YtfjflkmhhbhceaaGreatDoor
