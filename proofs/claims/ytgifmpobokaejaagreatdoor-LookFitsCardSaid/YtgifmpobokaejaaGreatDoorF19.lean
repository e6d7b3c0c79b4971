/-
  Layer 8, walks: what must come of fixed calls; the law ReplyFields. No condition.
-/
import Derived.Test.YtgifmpobokaejaaGreatDoorF17
import Derived.Test.YtgifmpobokaejaaGreatDoorF11
import Derived.Test.YtgifmpobokaejaaGreatDoorF18
import Derived.Test.YtgifmpobokaejaaGreatDoorF06
import Derived.Test.YtgifmpobokaejaaGreatDoorF12
import Derived.Test.YtgifmpobokaejaaGreatDoorF03
import Derived.Test.YtgifmpobokaejaaGreatDoorF08
import Derived.Lib.SliceRun
namespace Go.Proofs.YtgifmpobokaejaaGreatDoor
open Go.RowKit
attribute [local go_sem ↓] Go.wp_at_zero Go.wp_at_succ
attribute [local go_sem] rowAt_ptr rowOf_drew rowOf_drewN rowOf_alloc_past rowOf_new
attribute [local go_sem ↓] ldReply

attribute [local go_sem] Reply.at0 Reply.lat0 Reply.at1 Reply.lat1 Reply.at2 Reply.lat2 Reply.at3 Reply.lat3 Reply.at4 Reply.lat4 Reply.at5 Reply.lat5 Reply.at6 Reply.lat6 Reply.at7 Reply.lat7 Reply.at8 Reply.lat8 Reply.at9 Reply.lat9 Reply.at10 Reply.lat10 Reply.at11 Reply.lat11 Reply.at12 Reply.lat12 Reply.at13 Reply.lat13 Reply.at14 Reply.lat14 Reply.at15 Reply.lat15 Reply.at16 Reply.lat16 Reply.at17 Reply.lat17 Reply.at18 Reply.lat18 Reply.at19 Reply.lat19 Reply.at20 Reply.lat20 Reply.at21 Reply.lat21 Reply.at22 Reply.lat22 Reply.at23 Reply.lat23 Reply.at24 Reply.lat24 Reply.at25 Reply.lat25 Reply.at26 Reply.lat26 Reply.at27 Reply.lat27 Reply.at28 Reply.lat28 Reply.at29 Reply.lat29 Reply.at30 Reply.lat30 Reply.at31 Reply.lat31 Reply.at32 Reply.lat32 Reply.at33 Reply.lat33 Reply.at34 Reply.lat34 Reply.at35 Reply.lat35 Reply.at36 Reply.lat36 Reply.at37 Reply.lat37 Reply.at38 Reply.lat38 Reply.at39 Reply.lat39 Reply.at40 Reply.lat40 Reply.at41 Reply.lat41 Reply.at42 Reply.lat42 Reply.at43 Reply.lat43 Reply.at44 Reply.lat44 Reply.at45 Reply.lat45 Reply.at46 Reply.lat46 Reply.at47 Reply.lat47 Reply.at48 Reply.lat48 Reply.at49 Reply.lat49 Reply.at50 Reply.lat50 Reply.at51 Reply.lat51 Reply.at52 Reply.lat52 Reply.at53 Reply.lat53 Reply.at54 Reply.lat54 Reply.at55 Reply.lat55 Reply.at56 Reply.lat56 Reply.at57 Reply.lat57 Reply.sub0_58 Reply.lsub0_58 Reply.sub2_11 Reply.lsub2_11 Reply.sub3_10 Reply.lsub3_10 Reply.sub13_11 Reply.lsub13_11 Reply.sub14_10 Reply.lsub14_10 Reply.sub24_13 Reply.lsub24_13 Reply.sub24_2 Reply.lsub24_2 Reply.sub26_11 Reply.lsub26_11 Reply.sub27_10 Reply.lsub27_10 Reply.sub37_13 Reply.lsub37_13 Reply.sub37_2 Reply.lsub37_2 Reply.sub39_11 Reply.lsub39_11 Reply.sub40_10 Reply.lsub40_10 Reply.len

def r70 : Reply := ⟨70, [], postZ8, postZ8, ⟨⟨false, 0⟩, postZ8⟩, ⟨⟨false, 0⟩, postZ8⟩, 0, 0, false, [], 0, 0, none, 0, 0, none, 0, 0⟩
theorem pKnown70 : pKnown 70 = true := by decide
theorem pFields10 : pFields 1 false = [] := rfl
theorem pFields31 : pFields 3 true = [104, 97, 68] := rfl

end Go.Proofs.YtgifmpobokaejaaGreatDoor

/-
  Layer 8, walks: what must come of fixed calls; the law ReplyFields. No condition.
-/
namespace Go.Proofs.YtgifmpobokaejaaGreatDoor
open Go.RowKit
attribute [local go_sem ↓] Go.wp_at_zero Go.wp_at_succ
attribute [local go_sem] rowAt_ptr rowOf_drew rowOf_drewN rowOf_alloc_past rowOf_new
attribute [local go_sem ↓] ldReply

attribute [local go_sem] Reply.at0 Reply.lat0 Reply.at1 Reply.lat1 Reply.at2 Reply.lat2 Reply.at3 Reply.lat3 Reply.at4 Reply.lat4 Reply.at5 Reply.lat5 Reply.at6 Reply.lat6 Reply.at7 Reply.lat7 Reply.at8 Reply.lat8 Reply.at9 Reply.lat9 Reply.at10 Reply.lat10 Reply.at11 Reply.lat11 Reply.at12 Reply.lat12 Reply.at13 Reply.lat13 Reply.at14 Reply.lat14 Reply.at15 Reply.lat15 Reply.at16 Reply.lat16 Reply.at17 Reply.lat17 Reply.at18 Reply.lat18 Reply.at19 Reply.lat19 Reply.at20 Reply.lat20 Reply.at21 Reply.lat21 Reply.at22 Reply.lat22 Reply.at23 Reply.lat23 Reply.at24 Reply.lat24 Reply.at25 Reply.lat25 Reply.at26 Reply.lat26 Reply.at27 Reply.lat27 Reply.at28 Reply.lat28 Reply.at29 Reply.lat29 Reply.at30 Reply.lat30 Reply.at31 Reply.lat31 Reply.at32 Reply.lat32 Reply.at33 Reply.lat33 Reply.at34 Reply.lat34 Reply.at35 Reply.lat35 Reply.at36 Reply.lat36 Reply.at37 Reply.lat37 Reply.at38 Reply.lat38 Reply.at39 Reply.lat39 Reply.at40 Reply.lat40 Reply.at41 Reply.lat41 Reply.at42 Reply.lat42 Reply.at43 Reply.lat43 Reply.at44 Reply.lat44 Reply.at45 Reply.lat45 Reply.at46 Reply.lat46 Reply.at47 Reply.lat47 Reply.at48 Reply.lat48 Reply.at49 Reply.lat49 Reply.at50 Reply.lat50 Reply.at51 Reply.lat51 Reply.at52 Reply.lat52 Reply.at53 Reply.lat53 Reply.at54 Reply.lat54 Reply.at55 Reply.lat55 Reply.at56 Reply.lat56 Reply.at57 Reply.lat57 Reply.sub0_58 Reply.lsub0_58 Reply.sub2_11 Reply.lsub2_11 Reply.sub3_10 Reply.lsub3_10 Reply.sub13_11 Reply.lsub13_11 Reply.sub14_10 Reply.lsub14_10 Reply.sub24_13 Reply.lsub24_13 Reply.sub24_2 Reply.lsub24_2 Reply.sub26_11 Reply.lsub26_11 Reply.sub27_10 Reply.lsub27_10 Reply.sub37_13 Reply.lsub37_13 Reply.sub37_2 Reply.lsub37_2 Reply.sub39_11 Reply.lsub39_11 Reply.sub40_10 Reply.lsub40_10 Reply.len

theorem num70 : num 70 4 = [0, 0, 0, 70] := by decide

end Go.Proofs.YtgifmpobokaejaaGreatDoor


/-
  Layer 8, walks: lists are the same. Conditions: machine lists.
-/
namespace Go.Proofs.YtgifmpobokaejaaGreatDoor
open Go.RowKit
attribute [local go_sem ↓] Go.wp_at_zero Go.wp_at_succ
attribute [local go_sem] rowAt_ptr rowOf_drew rowOf_drewN rowOf_alloc_past rowOf_new
theorem ldEntry {ρ : Operand → Value} {w : World} {dst : Option Tmp} {ty : TypeId} {pos : String} {after : Array Edge} {g : Option (Nat × Bool)} {x : Operand} (h : (rowAt w 15 (ρ x)).isSome = true) :
    (execOp ρ ⟨dst, .load 80 x, ty, pos, after, g⟩).run Tryz.prog w = .ok (.value (.agg ((rowAt w 15 (ρ x)).getD #[]))) w := ex_load 80 15 Tryz.underlying80 rfl (by kernel_rfl) h
attribute [local go_sem ↓] ldEntry

theorem guardEntry : Tryz.prog.eqGuardType Tryz.prog.depth 80 = false := by kernel_rfl
def lfEntry : List Leaf := [.i .i64, .s, .i .i64] ++ lfPost8 ++ [.s]
theorem leafsEntry : leafs Tryz.prog 8 80 = some lfEntry := by kernel_rfl
theorem Entry.inj8 {x y : Entry} (h : x.vals = y.vals) : x = y := by
  obtain ⟨_, _, _, ⟨_, ⟨_, _, _, _, _, _, _, _, _, _⟩⟩, _⟩ := x
  obtain ⟨_, _, _, ⟨_, ⟨_, _, _, _, _, _, _, _, _, _⟩⟩, _⟩ := y
  simp only [Entry.vals, Post.vals, Attr.vals, List.cons_append, List.nil_append, List.cons.injEq, Value.int.injEq, Value.bool.injEq, Value.string.injEq, true_and, and_true] at h
  obtain ⟨h0, h1, h2, h3, h4, h5, h6, h7, h8, h9, h10, h11, h12, h13, h14⟩ := h
  have h1 := bs_inj h1
  have h14 := bs_inj h14
  subst_vars
  rfl
theorem neqEntry (x y : Entry) (w : World) : (binOp .neq 80 (.agg x.vals.toArray) (.agg y.vals.toArray)).run Tryz.prog w = .ok (.bool (decide (x ≠ y))) w := by
  by_cases h : x = y
  · rw [neq_same leafsEntry (by kernel_rfl) w _ _ (by rfl) (by rw [h]), decide_eq_false (by simpa using h)]
  · rw [neq_other leafsEntry (by kernel_rfl) w _ _ (by rfl) (by rfl) (fun e => h (Entry.inj8 e)), decide_eq_true h]
attribute [local go_sem ↓] neqEntry

attribute [local go_sem] guardEntry

def int1 (n : Int) : List Value := [.int .i64 n]

theorem rowCell8 {α : Type} {w : World} {sz : Nat} {A : Option Addr} {l : List α} {vals : α → List Value} (hsz : ∀ x, (vals x).length = sz) (h0 : 0 < sz) (hA : At w sz A (l.map vals)) {k : Nat} (hk : k < l.length) :
    ∃ b off, A = some ⟨b, off, none⟩ ∧ b < w.heap.size ∧ rowOf w b (off + k * sz) sz = some (vals l[k]).toArray ∧ ∀ j u, (vals l[k])[j]? = some u → w.cell? ⟨b, off + k * sz + j, none⟩ = some u := by
  obtain ⟨b, off, rfl, hb, hc⟩ := hA.getD (k := k) (by simpa using hk)
  have hc2 : ∀ j u, (vals l[k])[j]? = some u → w.cell? ⟨b, off + k * sz + j, none⟩ = some u := fun j u hu => hc j u (by simpa using hu)
  exact ⟨b, off, rfl, hb, rowOf_of hc2 (hsz _) h0, hc2⟩
theorem takeSame8 {α : Type} {l m : List α} {k : Nat} (h : l.take k = m.take k) (hk : k < l.length) (hm : k < m.length) (he : l[k] = m[k]) : l.take (k + 1) = m.take (k + 1) := by
  rw [take_next _ _ hk, take_next _ _ hm, h, he]

set_option maxHeartbeats 1600000 in
theorem equalE_any (A B : Option Addr) (c d : Nat) (l m : List Entry) (w : World) (hl : l.length ≤ 9223372036854775807) (hm : m.length ≤ 9223372036854775807) (hA : At w 15 A (l.map Entry.vals)) (hB : At w 15 B (m.map Entry.vals)) :
    Calls Tryz.prog 64 #[.slice A l.length c, .slice B m.length d] w fun e w' => e = .returned (.bool (decide (l = m))) ∧ Below w.heap.size w w' := by
  by_cases hlm : l.length = m.length
  · have hne : ((l.length : Int) != (m.length : Int)) = false := by simp [hlm]
    go_enter Tryz.func64, Tryz.ntmps64
    go_wp2
    go_loopw [13] (fun i wr => ∃ k : Nat, k ≤ l.length ∧ i = .int .i64 k ∧ l.take k = m.take k ∧ Below w.heap.size w wr) (fun i _ => l.length - (intOf i).toNat)
    case atStart => exact ⟨0, Nat.zero_le _, rfl, rfl, Below.refl _ _⟩
    case round =>
      obtain ⟨k, hk, rfl, ht, hb⟩ := hrel
      by_cases hlt : k < l.length
      · have hltm : k < m.length := by omega
        obtain ⟨b1, o1, rfl, hb1, r1, -⟩ := rowCell8 Entry.len (by omega) (hA.below hb) hlt
        obtain ⟨b2, o2, rfl, hb2, r2, -⟩ := rowCell8 Entry.len (by omega) (hB.below hb) hltm
        have hk0 : (0 : Int) ≤ (k : Int) := Int.natCast_nonneg _
        have hk1 : (k : Int) < (l.length : Int) := by omega
        have hk2 : (k : Int) < (m.length : Int) := by omega
        have HT := Lib.hid (fun h => takeSame8 ht hlt hltm h)
        have HN := Lib.hid (show l[k] ≠ m[k] → l ≠ m from fun h e => h (by subst e; rfl))
        clear ht hA hB
        by_cases he : l[k] = m[k]
        · have hd : decide (l[k] ≠ m[k]) = false := decide_eq_false (by simpa using he)
          have HS := Lib.hid (HT.out he)
          clear he HT HN
          go_wp2_with fail
          go_region_held3 (fun W => Stb wr W) (first | exact Stb.start | assumption) (first | fail)
          go_wp2
          go_roundw
          case rel => exact ⟨k + 1, by omega, by go_num, HS.out, bdN hb _⟩
          case measure => simp [intOf]; omega
        · have hd : decide (l[k] ≠ m[k]) = true := decide_eq_true he
          have HS := Lib.hid (HN.out he)
          clear he HT HN
          go_wp2_with fail
          go_region_held3 (fun W => Stb wr W) (first | exact Stb.start | assumption) (first | fail)
          go_wp2
          go_ret
          exact ⟨ret_bool (by rw [decide_eq_false HS.out]), bdN hb _⟩
      · have HS := Lib.hid (show l = m by
          have h1 : k = l.length := by omega
          rw [h1, List.take_length, hlm, List.take_length] at ht
          exact ht)
        clear ht hA hB
        go_wp2
        go_ret
        exact ⟨ret_bool (by rw [decide_eq_true HS.out]), hb⟩
  · have hne : ((l.length : Int) != (m.length : Int)) = true := by simp; omega
    have HS := Lib.hid (show l ≠ m from fun e => hlm (by rw [e]))
    clear hlm
    go_enter Tryz.func64, Tryz.ntmps64
    go_wp2
    go_ret
    exact ⟨ret_bool (by rw [decide_eq_false HS.out]), Below.refl _ _⟩

end Go.Proofs.YtgifmpobokaejaaGreatDoor


/-
  slices.Clone of entries and of ints: a row of the call's own with the same elements. Conditions: lengths.
-/
namespace Go.Proofs.YtgifmpobokaejaaGreatDoor
open Go.RowKit
attribute [local go_sem ↓] Go.wp_at_zero Go.wp_at_succ
attribute [local go_sem] rowAt_ptr rowOf_drew rowOf_drewN rowOf_alloc_past rowOf_new
theorem infoEntryB : (Tryz.prog.info? 80).map (fun i => (i.zero, i.size, i.bytes)) = some (some (.agg (Entry.mk 0 [] 0 postZ8 []).vals.toArray), 15, 136) := by kernel_rfl
theorem infoIntB : (Tryz.prog.info? 3).map (fun i => (i.zero, i.size, i.bytes)) = some (some (.int .i64 0), 1, 8) := by kernel_rfl

theorem flat_len {sz : Nat} : ∀ (rows : List (List Value)), (∀ r ∈ rows, r.length = sz) → rows.flatten.length = rows.length * sz
  | [], _ => by simp
  | r :: rows, h => by
    rw [List.flatten_cons, List.length_append, h r (by simp), flat_len rows (fun q hq => h q (List.mem_cons_of_mem _ hq)), List.length_cons, Nat.succ_mul]
    omega
/-- the cells of rows that lie somewhere, as one list -/
theorem At.flat {w : World} {sz : Nat} {A : Addr} {rows : List (List Value)} (h : At w sz (some A) rows) (hl : ∀ r ∈ rows, r.length = sz) (h0 : 0 < sz) : ∀ j u, rows.flatten[j]? = some u → w.cell? (A.add j) = some u := by
  intro j u hj
  have hlen : rows.flatten.length = rows.length * sz := by
    have := flat_len rows hl
    exact this
  have hj2 := (List.getElem?_eq_some_iff.1 hj).1
  rw [hlen] at hj2
  have hq : j / sz < rows.length := (Nat.div_lt_iff_lt_mul h0).2 hj2
  obtain ⟨b, off, hA, hb, hc⟩ := h.getD hq
  have hdm : j / sz * sz + j % sz = j := Nat.div_add_mod' j sz
  have hm : j % sz < sz := Nat.mod_lt _ h0
  have hrl := hl _ (List.getElem_mem hq)
  have hg := flat_get rows hl (j / sz) _ (List.getElem?_eq_getElem hq) (j % sz) _ (List.getElem?_eq_getElem (by omega))
  rw [hdm] at hg
  rw [hg] at hj
  cases hj
  have := hc (j % sz) _ (List.getElem?_eq_getElem (by omega))
  injection hA with hA
  subst hA
  rw [Addr.add_mid, show off + j = off + j / sz * sz + j % sz by omega]
  exact this

set_option maxRecDepth 20000 in
set_option maxHeartbeats 800000 in
theorem cloneE_any (A : Option Addr) (c : Nat) (l : List Entry) (w : World) (hl : l.length ≤ 1000000) (hA : At w 15 A (l.map Entry.vals)) :
    Calls Tryz.prog 61 #[.slice A l.length c] w fun e w' => ∃ v, e = .returned v ∧ RowS w' w.heap.size 80 15 v (l.map Entry.vals) ∧ Below w.heap.size w w' := by
  obtain ⟨i0, hi, hz, hsize, hby⟩ := info_parts infoEntryB
  have q22 : ∀ (w : World) (a : Option Addr) (n c n' c' : Nat), (binOp .eql 45 (.slice a n c) (.slice none n' c')).run Tryz.prog w = .ok (.bool a.isNone) w := fun w a n c n' c' => Lib.run_eql_slice_nil w _ _ a n c n' c' Tryz.underlying45
  have hlen : ∀ r ∈ l.map Entry.vals, r.length = 15 := by
    intro r hr; obtain ⟨x, _, rfl⟩ := List.mem_map.1 hr; rfl
  cases A with
  | none =>
    have h0 : l = [] := by
      cases l with
      | nil => rfl
      | cons x l => obtain ⟨b, off, h, _⟩ := hA 0 x.vals (by simp); cases h
    subst h0
    go_enter Tryz.func61, Tryz.ntmps61
    go_wp2
    go_ret
    exact ⟨_, rfl, RowS.none_, Below.refl _ _⟩
  | some A =>
    have hcell := hA.flat hlen (by omega)
    have hfl := flat_len _ hlen
    rw [List.length_map] at hfl
    have H := Lib.hid (And.intro hcell (And.intro hlen hfl))
    clear hcell hlen hfl hA
    go_enter Tryz.func61, Tryz.ntmps61
    go_wp2_with (at_builtin; refine wpList_append_own _ rfl _ _ 45 rfl w.heap.size 80 i0 (.agg (Entry.mk 0 [] 0 postZ8 []).vals.toArray) 15 136 Tryz.underlying45 hi hz hsize hby rfl (by decide) _ _ _ rfl (World.ownsRow_made w #[] 0 (Nat.le_refl _) (Nat.zero_le _) rfl) A l.length c (l.map Entry.vals).flatten rfl ?qc1 ?qc2 ?qc3 ?qc4 ?qc5 ?qc6 ?_)
    case qc1 => exact H.out.2.2
    case qc2 => exact fun j u hj => Lib.cell?_alloc_some _ (H.out.1 j u hj)
    case qc3 =>
      intro u hu
      obtain ⟨r, hr, hu⟩ := List.mem_flatten.1 hu
      obtain ⟨x, _, rfl⟩ := List.mem_map.1 hr
      exact x.one u hu
    case qc4 => unfold maxLen; omega
    case qc5 => omega
    case qc6 => simp
    intro v' w1 hown hgrow hnil
    go_wp2
    go_ret
    refine ⟨v', rfl, ⟨H.out.2.1, ?_⟩, ?_⟩
    · rw [List.length_map]
      simpa using hown
    · exact ((Below.refl _ w).alloc (Nat.le_refl _) _).grown hgrow (by simp) (by intro k hk; simp [Value.ownBlock] at hk; omega)

theorem cloneE_at (A : Option Addr) (c : Nat) (l : List Entry) (w : World) (hl : l.length ≤ 1000000) (hA : At w 15 A (l.map Entry.vals)) :
    Calls Tryz.prog 61 #[.slice A l.length c] w fun e w' => ∃ A' c', e = .returned (.slice A' l.length c') ∧ RowS w' w.heap.size 80 15 (.slice A' l.length c') (l.map Entry.vals) ∧ Below w.heap.size w w' := by
  refine (cloneE_any A c l w hl hA).mono ?_
  rintro e w' ⟨v, rfl, hR, hb⟩
  obtain ⟨A', c', rfl, -⟩ := hR.at_
  rw [List.length_map] at hR ⊢
  exact ⟨A', c', rfl, hR, hb⟩
end Go.Proofs.YtgifmpobokaejaaGreatDoor


/-
  Layer 8, walks: results with their lists: the program's Same. Conditions: machine lists.
-/
namespace Go.Proofs.YtgifmpobokaejaaGreatDoor
open Go.RowKit
attribute [local go_sem ↓] Go.wp_at_zero Go.wp_at_succ
attribute [local go_sem] rowAt_ptr rowOf_drew rowOf_drewN rowOf_alloc_past rowOf_new
/-- results with their lists -/
structure RepL where
  r : Reply
  es : List Entry
  us : List Int
structure RepL.There (x : RepL) (w : World) : Prop where
  ne : x.r.en = x.es.length
  nu : x.r.un = x.us.length
  le : x.es.length ≤ 9223372036854775807
  lu : x.us.length ≤ 9223372036854775807
  e : At w 15 x.r.ea (x.es.map Entry.vals)
  u : At w 1 x.r.ua (x.us.map int1)
theorem RepL.There.below {x : RepL} {w w' : World} (h : x.There w) (hb : Below w.heap.size w w') : x.There w' := ⟨h.ne, h.nu, h.le, h.lu, h.e.below hb, h.u.below hb⟩
/-- are they the same -/
def RepL.same (x y : RepL) : Bool := decide (x.es = y.es) && (decide (x.us = y.us) && decide (x.r.bare = y.r.bare))

end Go.Proofs.YtgifmpobokaejaaGreatDoor


/-
  How results that came in are read. No condition.
-/
namespace Go.Proofs.YtgifmpobokaejaaGreatDoor
open Go.ChangeShapes Go.WideShapes Go.ChangeAt Go.RowKit Go.Deep
section
variable {H : Type} {enc : TypeId × Value → H} {w : World} {base : Nat} {spare : Nat → Bool} {held : Bool} {fuel : Nat} {cs : List Value} {x : DataW H × List MemPlace}
instance : Inhabited Entry := ⟨⟨0, [], 0, postZ8, []⟩⟩
theorem open_int1 (h : DataW.trod enc Tryz.prog w base spare held fuel 3 cs = some x) : ∃ a : Int, cs = int1 a ∧ True := by
  obtain ⟨z, hz, _, _⟩ := DataW.trod_int Tryz.underlying3 h
  exact ⟨z, hz, trivial⟩
def RepL.vals (x : RepL) : List Value := x.r.vals
theorem open_reply (hlt : ∀ p ∈ x.2, p.block < w.heap.size) (h : DataW.trod enc Tryz.prog w base spare held fuel 48 cs = some x) :
    ∃ t : RepL, cs = t.vals ∧ True ∧ t.There w := by
  have hl : cs.length = 58 := (len_of Tryz.underlying48 h).trans (by kernel_rfl)
  obtain ⟨z0, h0, g0⟩ := int_field Tryz.underlying48 h 0 0 _ rfl (e := 38) rfl rfl (by kernel_rfl) Tryz.underlying38
  obtain ⟨z1, h1, g1⟩ := string_field Tryz.underlying48 h 1 1 _ rfl (e := 9) rfl rfl (by kernel_rfl) Tryz.underlying9
  obtain ⟨ps2, m2, y2, h2, hs2⟩ := sub_field Tryz.underlying48 h 2 2 11 _ rfl (e := 42) rfl rfl (by kernel_rfl)
  obtain ⟨z2, rfl, g2⟩ := open_Post hs2
  obtain ⟨ps3, m3, y3, h3, hs3⟩ := sub_field Tryz.underlying48 h 3 13 11 _ rfl (e := 42) rfl rfl (by kernel_rfl)
  obtain ⟨z3, rfl, g3⟩ := open_Post hs3
  obtain ⟨ps4, m4, y4, h4, hs4⟩ := sub_field Tryz.underlying48 h 4 24 13 _ rfl (e := 44) rfl rfl (by kernel_rfl)
  obtain ⟨z4, rfl, g4⟩ := open_Wcc hs4
  obtain ⟨ps5, m5, y5, h5, hs5⟩ := sub_field Tryz.underlying48 h 5 37 13 _ rfl (e := 44) rfl rfl (by kernel_rfl)
  obtain ⟨z5, rfl, g5⟩ := open_Wcc hs5
  obtain ⟨z6, h6, g6⟩ := int_field Tryz.underlying48 h 6 50 _ rfl (e := 3) rfl rfl (by kernel_rfl) Tryz.underlying3
  obtain ⟨z7, h7, g7⟩ := int_field Tryz.underlying48 h 7 51 _ rfl (e := 3) rfl rfl (by kernel_rfl) Tryz.underlying3
  obtain ⟨z8, h8⟩ := bool_field Tryz.underlying48 h 8 52 _ rfl (e := 4) rfl rfl (by kernel_rfl) Tryz.underlying4
  obtain ⟨z9, h9, g9⟩ := string_field Tryz.underlying48 h 9 53 _ rfl (e := 9) rfl rfl (by kernel_rfl) Tryz.underlying9
  obtain ⟨z10, h10, g10⟩ := int_field Tryz.underlying48 h 10 54 _ rfl (e := 3) rfl rfl (by kernel_rfl) Tryz.underlying3
  obtain ⟨z11, h11, g11⟩ := int_field Tryz.underlying48 h 11 55 _ rfl (e := 3) rfl rfl (by kernel_rfl) Tryz.underlying3
  obtain ⟨A0, n0, c0, m12, y12, h12, hn0, hs12, hy0⟩ := slice_field_places Tryz.underlying48 h 12 56 _ rfl (e := 45) rfl rfl (by kernel_rfl) Tryz.underlying45
  obtain ⟨l0, rfl, hA0, hg0⟩ := rows_of (α := Entry) (sz := 15) Tryz.underlying45 (by kernel_rfl) (by omega) Entry.vals Entry.good (fun p hp => hlt p (hy0 p hp)) (fun _ _ _ _ ht => open_Entry ht) hs12
  obtain ⟨A1, n1, c1, m13, y13, h13, hn1, hs13, hy1⟩ := slice_field_places Tryz.underlying48 h 13 57 _ rfl (e := 46) rfl rfl (by kernel_rfl) Tryz.underlying46
  obtain ⟨l1, rfl, hA1, hg1⟩ := rows_of (α := Int) (sz := 1) Tryz.underlying46 (by kernel_rfl) (by omega) int1 (fun _ => True) (fun p hp => hlt p (hy1 p hp)) (fun _ _ _ _ ht => open_int1 ht) hs13
  have hend : cs.drop 58 = [] := List.drop_of_length_le (by omega)
  have e : cs = cs.drop 0 := rfl
  simp only [Nat.reduceAdd] at h0 h1 h2 h3 h4 h5 h6 h7 h8 h9 h10 h11 h12 h13
  unfold maxLen at hn0 hn1
  refine ⟨⟨⟨z0, z1.data.toList, z2, z3, z4, z5, z6, z7, z8, z9.data.toList, z10, z11, A0, l0.length, c0, A1, l1.length, c1⟩, l0, l1⟩, e.trans ?_, trivial, ⟨rfl, rfl, by omega, by omega, hA0, hA1⟩⟩
  rw [h0, h1, h2, h3, h4, h5, h6, h7, h8, h9, h10, h11, h12, h13, hend]
  simp only [RepL.vals, Reply.vals, bs_list]
  rfl
end
end Go.Proofs.YtgifmpobokaejaaGreatDoor


/-
  How a tree that came in is read, with the entries of each node. No condition.
-/
namespace Go.Proofs.YtgifmpobokaejaaGreatDoor
open Go.ChangeShapes Go.WideShapes Go.ChangeAt Go.RowKit Go.Deep

/-- each node's entries lie where it says -/
def Ents (w : World) (ps : List (Nd × List Entry)) : Prop := ∀ p ∈ ps, p.1.en = p.2.length ∧ At w 15 p.1.ea (p.2.map Entry.vals)
theorem Ents.below {w w' : World} {ps : List (Nd × List Entry)} (h : Ents w ps) (hb : Below w.heap.size w w') : Ents w' ps := fun p hp => ⟨(h p hp).1, (h p hp).2.below hb⟩
section
variable {H : Type} {enc : TypeId × Value → H} {w : World} {base : Nat} {spare : Nat → Bool} {held : Bool} {fuel : Nat} {cs : List Value} {x : DataW H × List MemPlace}
theorem open_NdE (hlt : ∀ p ∈ x.2, p.block < w.heap.size) (h : DataW.trod enc Tryz.prog w base spare held fuel 65 cs = some x) :
    ∃ a : Nd × List Entry, cs = a.1.vals ∧ a.1.good ∧ a.1.en = a.2.length ∧ At w 15 a.1.ea (a.2.map Entry.vals) ∧ ∀ e ∈ a.2, e.good := by
  obtain ⟨n, rfl, hg⟩ := open_Nd h
  obtain ⟨A, k, c, m, y, h3, hn, hs, hy⟩ := slice_field_places Tryz.underlying65 h 5 14 _ rfl (e := 45) rfl rfl (by kernel_rfl) Tryz.underlying45
  have e3 : n.vals.drop 14 = [.slice n.ea n.en n.ec] := rfl
  rw [e3] at h3
  injection h3 with h3
  injection h3 with h4 h5 h6
  subst h4 h5 h6
  obtain ⟨l, hl, hA, hgl⟩ := rows_of (α := Entry) (sz := 15) Tryz.underlying45 (by kernel_rfl) (by omega) Entry.vals Entry.good (fun p hp => hlt p (hy p hp)) (fun _ _ _ _ ht => open_Entry ht) hs
  exact ⟨(n, l), rfl, hg, hl, hA, hgl⟩
/-- a tree, with its nodes' entries -/
theorem open_deep (hlt : ∀ p ∈ x.2, p.block < w.heap.size) (h : DataW.trod enc Tryz.prog w base spare held fuel 26 cs = some x) :
    ∃ (t : Tr) (ps : List (Nd × List Entry)), cs = t.vals ∧ t.ns = ps.map (·.1) ∧ ps.length ≤ maxLen ∧ At w 15 t.na (t.ns.map Nd.vals) ∧ Ents w ps ∧ ∀ p ∈ ps, p.1.good ∧ ∀ e ∈ p.2, e.good := by
  have hl : cs.length = 6 := (len_of Tryz.underlying26 h).trans (by kernel_rfl)
  obtain ⟨ps0, m0, y0, h0, hs0⟩ := sub_field Tryz.underlying26 h 0 0 3 _ rfl (e := 23) rfl rfl (by kernel_rfl)
  obtain ⟨z0, rfl, _⟩ := open_Lim hs0
  obtain ⟨z1, h1, _⟩ := int_field Tryz.underlying26 h 1 3 _ rfl (e := 3) rfl rfl (by kernel_rfl) Tryz.underlying3
  obtain ⟨z2, h2, _⟩ := int_field Tryz.underlying26 h 2 4 _ rfl (e := 3) rfl rfl (by kernel_rfl) Tryz.underlying3
  obtain ⟨A, n, c, m, y, h3, hn, hs, hy⟩ := slice_field_places Tryz.underlying26 h 3 5 _ rfl (e := 24) rfl rfl (by kernel_rfl) Tryz.underlying24
  obtain ⟨ps, rfl, hA, hg⟩ := rows_of (α := Nd × List Entry) (sz := 15) Tryz.underlying24 (by kernel_rfl) (by omega) (fun p => p.1.vals) (fun a => a.1.good ∧ a.1.en = a.2.length ∧ At w 15 a.1.ea (a.2.map Entry.vals) ∧ ∀ e ∈ a.2, e.good) (fun p hp => hlt p (hy p hp)) (fun _ _ _ hp ht => open_NdE hp ht) hs
  have hend : cs.drop 6 = [] := List.drop_of_length_le (by omega)
  have e : cs = cs.drop 0 := rfl
  simp only [Nat.reduceAdd] at h0 h1 h2 h3
  refine ⟨⟨z0, z1, z2, A, c, ps.map (·.1)⟩, ps, e.trans ?_, rfl, hn, ?_, fun p hp => ⟨(hg p hp).2.1, (hg p hp).2.2.1⟩, fun p hp => ⟨(hg p hp).1, (hg p hp).2.2.2⟩⟩
  · rw [h0, h1, h2, h3, hend]
    show _ = Tr.vals _
    unfold Tr.vals
    simp only [List.length_map]
  · rw [List.map_map]
    exact hA
end
end Go.Proofs.YtgifmpobokaejaaGreatDoor


/-
  Layer 8, walks: how numbers are taken. Condition: texts of Go's length.
-/
namespace Go.Proofs.YtgifmpobokaejaaGreatDoor
open Go.RowKit
attribute [local go_sem ↓] Go.wp_at_zero Go.wp_at_succ
attribute [local go_sem] rowAt_ptr rowOf_drew rowOf_drewN rowOf_alloc_past rowOf_new

theorem numsK_len {r : Rs} (h : r.s.length ≤ 9223372036854775807) : ∀ k, (numsK r k).2.s.length ≤ 9223372036854775807
  | 0 => h
  | k + 1 => Nat.le_trans (rU64_len (numsK_len h k)) (numsK_len h k)
theorem numsK_one (r : Rs) : ∀ k, (numsK r k).1.length = k
  | 0 => rfl
  | k + 1 => by simp [numsK, numsK_one r k]
theorem rU64_stick8 {r : Rs} (h : r.e ≠ 0) : (rU64 r).2.e ≠ 0 := by
  have h1 : rNum 8 r = (0, r) := rNum_err h
  unfold rU64
  rw [h1]
  simpa using h
theorem numsK_stick {r : Rs} {k : Nat} (h : (numsK r k).2.e ≠ 0) : ∀ m, k ≤ m → (numsK r m).2.e ≠ 0 := by
  intro m hm
  induction m with
  | zero => obtain rfl : k = 0 := by omega
            exact h
  | succ m ih =>
    by_cases hk : k = m + 1
    · subst hk; exact h
    · exact rU64_stick8 (ih (by omega))
theorem Touch.belowQ {F : Nat → Prop} {w W W' : World} (h : Touch F w W) (hb : Below w.heap.size W W') : Touch F w W' :=
  ⟨hb.os.trans h.os, hb.tape.trans h.tape, hb.output.trans h.output, Nat.le_trans h.size hb.size, fun k hk hn => (hb.block k hk).trans (h.block k hk hn)⟩
def numsOk (r : Rs) : Bool := decide ((rU32 r).1 ≤ 16) && ((numsK (rU32 r).2 (rU32 r).1).2.e == 0)

end Go.Proofs.YtgifmpobokaejaaGreatDoor
