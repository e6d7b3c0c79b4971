/-
  Layer 8, walks: what must come of fixed calls; the law ReplyFields. No condition.
-/
import Derived.Test.YtapcjojlkeaadaaGreatDoorP19
import Derived.Test.YtapcjojlkeaadaaGreatDoorP15
import Derived.Test.YtapcjojlkeaadaaGreatDoorP17
import Derived.Lib.SliceRun
namespace Go.Proofs.YtapcjojlkeaadaaGreatDoor
open Go.RowKit
attribute [local go_sem ↓] Go.wp_at_zero Go.wp_at_succ
attribute [local go_sem] rowAt_ptr rowOf_drew rowOf_drewN rowOf_alloc_past rowOf_new
attribute [local go_sem ↓] ldReply

attribute [local go_sem] Reply.at0 Reply.lat0 Reply.at1 Reply.lat1 Reply.at2 Reply.lat2 Reply.at3 Reply.lat3 Reply.at4 Reply.lat4 Reply.at5 Reply.lat5 Reply.at6 Reply.lat6 Reply.at7 Reply.lat7 Reply.at8 Reply.lat8 Reply.at9 Reply.lat9 Reply.at10 Reply.lat10 Reply.at11 Reply.lat11 Reply.at12 Reply.lat12 Reply.at13 Reply.lat13 Reply.at14 Reply.lat14 Reply.at15 Reply.lat15 Reply.at16 Reply.lat16 Reply.at17 Reply.lat17 Reply.at18 Reply.lat18 Reply.at19 Reply.lat19 Reply.at20 Reply.lat20 Reply.at21 Reply.lat21 Reply.at22 Reply.lat22 Reply.at23 Reply.lat23 Reply.at24 Reply.lat24 Reply.at25 Reply.lat25 Reply.at26 Reply.lat26 Reply.at27 Reply.lat27 Reply.at28 Reply.lat28 Reply.at29 Reply.lat29 Reply.at30 Reply.lat30 Reply.at31 Reply.lat31 Reply.at32 Reply.lat32 Reply.at33 Reply.lat33 Reply.at34 Reply.lat34 Reply.at35 Reply.lat35 Reply.at36 Reply.lat36 Reply.at37 Reply.lat37 Reply.at38 Reply.lat38 Reply.at39 Reply.lat39 Reply.at40 Reply.lat40 Reply.at41 Reply.lat41 Reply.at42 Reply.lat42 Reply.at43 Reply.lat43 Reply.at44 Reply.lat44 Reply.at45 Reply.lat45 Reply.at46 Reply.lat46 Reply.at47 Reply.lat47 Reply.at48 Reply.lat48 Reply.at49 Reply.lat49 Reply.at50 Reply.lat50 Reply.at51 Reply.lat51 Reply.at52 Reply.lat52 Reply.at53 Reply.lat53 Reply.at54 Reply.lat54 Reply.at55 Reply.lat55 Reply.at56 Reply.lat56 Reply.at57 Reply.lat57 Reply.sub0_58 Reply.lsub0_58 Reply.sub2_11 Reply.lsub2_11 Reply.sub3_10 Reply.lsub3_10 Reply.sub13_11 Reply.lsub13_11 Reply.sub14_10 Reply.lsub14_10 Reply.sub24_13 Reply.lsub24_13 Reply.sub24_2 Reply.lsub24_2 Reply.sub26_11 Reply.lsub26_11 Reply.sub27_10 Reply.lsub27_10 Reply.sub37_13 Reply.lsub37_13 Reply.sub37_2 Reply.lsub37_2 Reply.sub39_11 Reply.lsub39_11 Reply.sub40_10 Reply.lsub40_10 Reply.len

theorem wrFresh8 (w : World) : Wr (w.alloc (.cells #[.slice none 0 0] 71)) w.heap.size (.slice none 0 0) [] := ⟨Blk.new _ _ _, World.ownsRow_nil _ _ _ _⟩
theorem num70 : num 70 4 = [0, 0, 0, 70] := by decide

set_option maxRecDepth 20000 in
set_option maxHeartbeats 800000 in
theorem put70_any (w : World) : Calls Tryz.prog 10 #[.int .i64 1, .agg r70.vals.toArray] w fun e w' => e = .returned (.tuple #[.string (bs [0, 0, 0, 70]), .int .i64 0]) ∧ Below w.heap.size w w' := by
  have hA := Blk.new w 35 r70.vals
  have hB : Below w.heap.size w (w.alloc (.cells r70.vals.toArray 35)) := (Below.refl _ _).alloc (Nat.le_refl _) _
  have hf := fun W => replyFields_any 1 false W
  rw [pFields10] at hf
  obtain ⟨r, hr⟩ : ∃ r, r = r70 := ⟨_, rfl⟩
  have hC := check70_any
  rw [← hr] at hA hB hC ⊢
  have hst0 : r.vals[0]? = some (.int .i64 70) := by rw [hr]; rfl
  clear hr
  have rA : rowOf (w.alloc (.cells r.vals.toArray 35)) w.heap.size 0 58 = some r.vals.toArray := hA.row 0 58 (by simp [Reply.len])
  go_enter Tryz.func10, Tryz.ntmps10
  go_wp2_with fail
  change Calls _ _ _ (w.alloc (.cells r.vals.toArray 35)) _
  generalize w.alloc (.cells r.vals.toArray 35) = w1 at *
  refine (hC _).mono ?_
  rintro e w2 ⟨rfl, hx⟩
  have hA2 := hA.stays hx
  have hB2 := below_then hB hx
  clear hA hB rA hx hC
  have hW3 := wrFresh8 w2
  have hA3 := hA2.alloc (.cells #[.slice none 0 0] 71)
  have hB3 := hB2.alloc hB2.size (.cells #[.slice none 0 0] 71)
  have hc3 := hA3.cell 0
  rw [hst0] at hc3
  have hsz2 : w.heap.size < w2.heap.size := hA2.lt
  clear hA2 hB2
  go_wp2_with fail
  change Calls _ _ _ (w2.alloc (.cells #[.slice none 0 0] 71)) _
  generalize w2.alloc (.cells #[.slice none 0 0] 71) = w3 at *
  refine (wU32_any w2.heap.size _ [] 70 _ hW3 (by decide) (by decide)).mono ?_
  rintro e w4 ⟨rfl, sv4, hW4, hr4, hT4⟩
  rw [List.nil_append, num70] at hW4
  have hB4 := hB3.trans (Moved.below (B := w.heap.size) ⟨sv4, hW4, hr4, hT4⟩ (by omega) (by simp [Value.ownBlock]) hB3.size)
  have hA4 := hW3.keeps hA3 (by decide) (by decide) hT4
  have hc4 := hA4.cell 0
  rw [hst0] at hc4
  clear hc3 hA3 hB3 hW3 hr4 hT4
  go_wp2_with fail
  refine (hf _).mono ?_
  rintro e w5 ⟨rfl, hx⟩
  have hW5 := hW4.stays hx
  have hB5 := below_then hB4 hx
  clear hW4 hB4 hA4 hc4 hx hf
  have hI := Itr.new w5 []
  have hx : Below w5.heap.size w5 (w5.iter (bs []) 0) := (Below.refl _ _).alloc (Nat.le_refl _) (.stringIter (bs []) 0)
  have hW6 := hW5.stays hx
  have hB6 := below_then hB5 hx
  clear hW5 hB5 hx
  go_wp2
  change Code.wp _ _ _ _ (w5.iter (bs []) 0)
  generalize w5.iter (bs []) 0 = w6 at *
  generalize w5.heap.size = ib at *
  have hn := fun ty => run_next_itr_end (P := Tryz.prog) hI (by simp) ty
  clear hI hst0
  go_loopw [9] (fun _ wr => wr = w6) (fun _ _ => 0)
  case atStart => rfl
  case round =>
    obtain rfl := hrel
    go_wp2_with fail
    refine (wText_any _ sv4 _ _ hW6).mono ?_
    rintro e w7 ⟨rfl, rfl⟩
    go_wp2
    go_ret2
    exact ⟨rfl, hB6⟩

set_option maxRecDepth 20000 in
set_option maxHeartbeats 800000 in
theorem known8_any (w : World) : Calls Tryz.prog 4 #[] w fun e w' => e = .returned (.bool true) ∧ Below w.heap.size w w' := by
  have hp := put70_any
  have hl : r70.vals.toArray = #[.int .i64 70, .string ⟨#[]⟩, .bool false, .int .i64 0, .int .i64 0, .int .i64 0, .int .i64 0, .int .i64 0, .int .i64 0, .int .i64 0, .int .i64 0, .int .i64 0, .int .i64 0, .bool false, .int .i64 0, .int .i64 0, .int .i64 0, .int .i64 0, .int .i64 0, .int .i64 0, .int .i64 0, .int .i64 0, .int .i64 0, .int .i64 0, .bool false, .int .i64 0, .bool false, .int .i64 0, .int .i64 0, .int .i64 0, .int .i64 0, .int .i64 0, .int .i64 0, .int .i64 0, .int .i64 0, .int .i64 0, .int .i64 0, .bool false, .int .i64 0, .bool false, .int .i64 0, .int .i64 0, .int .i64 0, .int .i64 0, .int .i64 0, .int .i64 0, .int .i64 0, .int .i64 0, .int .i64 0, .int .i64 0, .int .i64 0, .int .i64 0, .bool false, .string ⟨#[]⟩, .int .i64 0, .int .i64 0, .slice none 0 0, .slice none 0 0] := rfl
  rw [hl] at hp
  have hf := fun W => replyFields_any 3 true W
  rw [pFields31] at hf
  have HP := Lib.hid hp
  have HF := Lib.hid hf
  clear hp hf hl
  go_enter Tryz.func4, Tryz.ntmps4
  go_wp2_with fail
  refine (HP.out _).mono ?_
  rintro e w1 ⟨rfl, hb1⟩
  clear HP
  go_wp2_with fail
  refine (HF.out _).mono ?_
  rintro e w2 ⟨rfl, hb2⟩
  go_wp2
  go_ret
  exact ⟨rfl, below_then hb1 hb2⟩

end Go.Proofs.YtapcjojlkeaadaaGreatDoor

/-
  Layer 8, walks: lists are the same. Conditions: machine lists.
-/
namespace Go.Proofs.YtapcjojlkeaadaaGreatDoor
open Go.RowKit
attribute [local go_sem ↓] Go.wp_at_zero Go.wp_at_succ
attribute [local go_sem] rowAt_ptr rowOf_drew rowOf_drewN rowOf_alloc_past rowOf_new
theorem ldEntry {ρ : Operand → Value} {w : World} {dst : Option Tmp} {ty : TypeId} {pos : String} {after : Array Edge} {g : Option (Nat × Bool)} {x : Operand} (h : (rowAt w 15 (ρ x)).isSome = true) :
    (execOp ρ ⟨dst, .load 56 x, ty, pos, after, g⟩).run Tryz.prog w = .ok (.value (.agg ((rowAt w 15 (ρ x)).getD #[]))) w := ex_load 56 15 Tryz.underlying56 rfl (by kernel_rfl) h
attribute [local go_sem ↓] ldEntry

theorem guardEntry : Tryz.prog.eqGuardType Tryz.prog.depth 56 = false := by kernel_rfl
def lfEntry : List Leaf := [.i .i64, .s, .i .i64] ++ lfPost8 ++ [.s]
theorem leafsEntry : leafs Tryz.prog 8 56 = some lfEntry := by kernel_rfl
theorem Entry.inj8 {x y : Entry} (h : x.vals = y.vals) : x = y := by
  obtain ⟨_, _, _, ⟨_, ⟨_, _, _, _, _, _, _, _, _, _⟩⟩, _⟩ := x
  obtain ⟨_, _, _, ⟨_, ⟨_, _, _, _, _, _, _, _, _, _⟩⟩, _⟩ := y
  simp only [Entry.vals, Post.vals, Attr.vals, List.cons_append, List.nil_append, List.cons.injEq, Value.int.injEq, Value.bool.injEq, Value.string.injEq, true_and, and_true] at h
  obtain ⟨h0, h1, h2, h3, h4, h5, h6, h7, h8, h9, h10, h11, h12, h13, h14⟩ := h
  have h1 := bs_inj h1
  have h14 := bs_inj h14
  subst_vars
  rfl
theorem neqEntry (x y : Entry) (w : World) : (binOp .neq 56 (.agg x.vals.toArray) (.agg y.vals.toArray)).run Tryz.prog w = .ok (.bool (decide (x ≠ y))) w := by
  by_cases h : x = y
  · rw [neq_same leafsEntry (by kernel_rfl) w _ _ (by rfl) (by rw [h]), decide_eq_false (by simpa using h)]
  · rw [neq_other leafsEntry (by kernel_rfl) w _ _ (by rfl) (by rfl) (fun e => h (Entry.inj8 e)), decide_eq_true h]
attribute [local go_sem ↓] neqEntry

attribute [local go_sem] guardEntry

def int1 (n : Int) : List Value := [.int .i64 n]

theorem rowCell8 {α : Type} {w : World} {sz : Nat} {A : Option Addr} {l : List α} {vals : α → List Value} (hsz : ∀ x, (vals x).length = sz) (h0 : 0 < sz) (hA : At w sz A (l.map vals)) {k : Nat} (hk : k < l.length) :
    ∃ b off, A = some ⟨b, off, none⟩ ∧ b < w.heap.size ∧ rowOf w b (off + k * sz) sz = some (vals l[k]).toArray ∧ ∀ j u, (vals l[k])[j]? = some u → w.cell? ⟨b, off + k * sz + j, none⟩ = some u := by
  obtain ⟨b, off, rfl, hb, hc⟩ := hA.getD (k := k) (by simpa using hk)
  have hc2 : ∀ j u, (vals l[k])[j]? = some u → w.cell? ⟨b, off + k * sz + j, none⟩ = some u := fun j u hu => hc j u (by simpa using hu)
  exact ⟨b, off, rfl, hb, rowOf_of hc2 (hsz _) h0, hc2⟩
theorem takeSame8 {α : Type} {l m : List α} {k : Nat} (h : l.take k = m.take k) (hk : k < l.length) (hm : k < m.length) (he : l[k] = m[k]) : l.take (k + 1) = m.take (k + 1) := by
  rw [take_next _ _ hk, take_next _ _ hm, h, he]

set_option maxHeartbeats 1600000 in
theorem equalE_any (A B : Option Addr) (c d : Nat) (l m : List Entry) (w : World) (hl : l.length ≤ 9223372036854775807) (hm : m.length ≤ 9223372036854775807) (hA : At w 15 A (l.map Entry.vals)) (hB : At w 15 B (m.map Entry.vals)) :
    Calls Tryz.prog 84 #[.slice A l.length c, .slice B m.length d] w fun e w' => e = .returned (.bool (decide (l = m))) ∧ Below w.heap.size w w' := by
  by_cases hlm : l.length = m.length
  · have hne : ((l.length : Int) != (m.length : Int)) = false := by simp [hlm]
    go_enter Tryz.func84, Tryz.ntmps84
    go_wp2
    go_loopw [13] (fun i wr => ∃ k : Nat, k ≤ l.length ∧ i = .int .i64 k ∧ l.take k = m.take k ∧ Below w.heap.size w wr) (fun i _ => l.length - (intOf i).toNat)
    case atStart => exact ⟨0, Nat.zero_le _, rfl, rfl, Below.refl _ _⟩
    case round =>
      obtain ⟨k, hk, rfl, ht, hb⟩ := hrel
      by_cases hlt : k < l.length
      · have hltm : k < m.length := by omega
        obtain ⟨b1, o1, rfl, hb1, r1, -⟩ := rowCell8 Entry.len (by omega) (hA.below hb) hlt
        obtain ⟨b2, o2, rfl, hb2, r2, -⟩ := rowCell8 Entry.len (by omega) (hB.below hb) hltm
        have hk0 : (0 : Int) ≤ (k : Int) := Int.natCast_nonneg _
        have hk1 : (k : Int) < (l.length : Int) := by omega
        have hk2 : (k : Int) < (m.length : Int) := by omega
        have HT := Lib.hid (fun h => takeSame8 ht hlt hltm h)
        have HN := Lib.hid (show l[k] ≠ m[k] → l ≠ m from fun h e => h (by subst e; rfl))
        clear ht hA hB
        by_cases he : l[k] = m[k]
        · have hd : decide (l[k] ≠ m[k]) = false := decide_eq_false (by simpa using he)
          have HS := Lib.hid (HT.out he)
          clear he HT HN
          go_wp2_with fail
          go_region_held3 (fun W => Stb wr W) (first | exact Stb.start | assumption) (first | fail)
          go_wp2
          go_roundw
          case rel => exact ⟨k + 1, by omega, by go_num, HS.out, bdN hb _⟩
          case measure => simp [intOf]; omega
        · have hd : decide (l[k] ≠ m[k]) = true := decide_eq_true he
          have HS := Lib.hid (HN.out he)
          clear he HT HN
          go_wp2_with fail
          go_region_held3 (fun W => Stb wr W) (first | exact Stb.start | assumption) (first | fail)
          go_wp2
          go_ret
          exact ⟨ret_bool (by rw [decide_eq_false HS.out]), bdN hb _⟩
      · have HS := Lib.hid (show l = m by
          have h1 : k = l.length := by omega
          rw [h1, List.take_length, hlm, List.take_length] at ht
          exact ht)
        clear ht hA hB
        go_wp2
        go_ret
        exact ⟨ret_bool (by rw [decide_eq_true HS.out]), hb⟩
  · have hne : ((l.length : Int) != (m.length : Int)) = true := by simp; omega
    have HS := Lib.hid (show l ≠ m from fun e => hlm (by rw [e]))
    clear hlm
    go_enter Tryz.func84, Tryz.ntmps84
    go_wp2
    go_ret
    exact ⟨ret_bool (by rw [decide_eq_false HS.out]), Below.refl _ _⟩

set_option maxHeartbeats 1600000 in
theorem equalI_any (A B : Option Addr) (c d : Nat) (l m : List Int) (w : World) (hl : l.length ≤ 9223372036854775807) (hm : m.length ≤ 9223372036854775807) (hA : At w 1 A (l.map int1)) (hB : At w 1 B (m.map int1)) :
    Calls Tryz.prog 85 #[.slice A l.length c, .slice B m.length d] w fun e w' => e = .returned (.bool (decide (l = m))) ∧ Below w.heap.size w w' := by
  by_cases hlm : l.length = m.length
  · have hne : ((l.length : Int) != (m.length : Int)) = false := by simp [hlm]
    go_enter Tryz.func85, Tryz.ntmps85
    go_wp2
    go_loopw [13] (fun i wr => ∃ k : Nat, k ≤ l.length ∧ i = .int .i64 k ∧ l.take k = m.take k ∧ Below w.heap.size w wr) (fun i _ => l.length - (intOf i).toNat)
    case atStart => exact ⟨0, Nat.zero_le _, rfl, rfl, Below.refl _ _⟩
    case round =>
      obtain ⟨k, hk, rfl, ht, hb⟩ := hrel
      by_cases hlt : k < l.length
      · have hltm : k < m.length := by omega
        obtain ⟨b1, o1, rfl, hb1, -, c1⟩ := rowCell8 (vals := int1) (sz := 1) (fun _ => rfl) (by omega) (hA.below hb) hlt
        obtain ⟨b2, o2, rfl, hb2, -, c2⟩ := rowCell8 (vals := int1) (sz := 1) (fun _ => rfl) (by omega) (hB.below hb) hltm
        have c1 := c1 0 (.int .i64 l[k]) rfl
        have c2 := c2 0 (.int .i64 m[k]) rfl
        rw [Nat.add_zero, Nat.mul_one] at c1 c2
        have hk0 : (0 : Int) ≤ (k : Int) := Int.natCast_nonneg _
        have hk1 : (k : Int) < (l.length : Int) := by omega
        have hk2 : (k : Int) < (m.length : Int) := by omega
        have HT := Lib.hid (fun h => takeSame8 ht hlt hltm h)
        have HN := Lib.hid (show l[k] ≠ m[k] → l ≠ m from fun h e => h (by subst e; rfl))
        clear ht hA hB
        by_cases he : l[k] = m[k]
        · have hd : (l[k] != m[k]) = false := by simpa using he
          have HS := Lib.hid (HT.out he)
          clear he HT HN
          generalize l[k] = x at *
          generalize m[k] = y at *
          go_wp2_with fail
          go_region_held3 (fun W => Stb wr W) (first | exact Stb.start | assumption) (first | fail)
          go_wp2
          go_roundw
          case rel => exact ⟨k + 1, by omega, by go_num, HS.out, bdN hb _⟩
          case measure => simp [intOf]; omega
        · have hd : (l[k] != m[k]) = true := by simpa using he
          have HS := Lib.hid (HN.out he)
          clear he HT HN
          generalize l[k] = x at *
          generalize m[k] = y at *
          go_wp2_with fail
          go_region_held3 (fun W => Stb wr W) (first | exact Stb.start | assumption) (first | fail)
          go_wp2
          go_ret
          exact ⟨ret_bool (by rw [decide_eq_false HS.out]), bdN hb _⟩
      · have HS := Lib.hid (show l = m by
          have h1 : k = l.length := by omega
          rw [h1, List.take_length, hlm, List.take_length] at ht
          exact ht)
        clear ht hA hB
        go_wp2
        go_ret
        exact ⟨ret_bool (by rw [decide_eq_true HS.out]), hb⟩
  · have hne : ((l.length : Int) != (m.length : Int)) = true := by simp; omega
    have HS := Lib.hid (show l ≠ m from fun e => hlm (by rw [e]))
    clear hlm
    go_enter Tryz.func85, Tryz.ntmps85
    go_wp2
    go_ret
    exact ⟨ret_bool (by rw [decide_eq_false HS.out]), Below.refl _ _⟩
end Go.Proofs.YtapcjojlkeaadaaGreatDoor


/-
  slices.Clone of entries and of ints: a row of the call's own with the same elements. Conditions: lengths.
-/
namespace Go.Proofs.YtapcjojlkeaadaaGreatDoor
open Go.RowKit
attribute [local go_sem ↓] Go.wp_at_zero Go.wp_at_succ
attribute [local go_sem] rowAt_ptr rowOf_drew rowOf_drewN rowOf_alloc_past rowOf_new
theorem infoEntryB : (Tryz.prog.info? 56).map (fun i => (i.zero, i.size, i.bytes)) = some (some (.agg (Entry.mk 0 [] 0 postZ8 []).vals.toArray), 15, 136) := by kernel_rfl
theorem infoIntB : (Tryz.prog.info? 3).map (fun i => (i.zero, i.size, i.bytes)) = some (some (.int .i64 0), 1, 8) := by kernel_rfl

theorem flat_len {sz : Nat} : ∀ (rows : List (List Value)), (∀ r ∈ rows, r.length = sz) → rows.flatten.length = rows.length * sz
  | [], _ => by simp
  | r :: rows, h => by
    rw [List.flatten_cons, List.length_append, h r (by simp), flat_len rows (fun q hq => h q (List.mem_cons_of_mem _ hq)), List.length_cons, Nat.succ_mul]
    omega
/-- the cells of rows that lie somewhere, as one list -/
theorem At.flat {w : World} {sz : Nat} {A : Addr} {rows : List (List Value)} (h : At w sz (some A) rows) (hl : ∀ r ∈ rows, r.length = sz) (h0 : 0 < sz) : ∀ j u, rows.flatten[j]? = some u → w.cell? (A.add j) = some u := by
  intro j u hj
  have hlen : rows.flatten.length = rows.length * sz := by
    have := flat_len rows hl
    exact this
  have hj2 := (List.getElem?_eq_some_iff.1 hj).1
  rw [hlen] at hj2
  have hq : j / sz < rows.length := (Nat.div_lt_iff_lt_mul h0).2 hj2
  obtain ⟨b, off, hA, hb, hc⟩ := h.getD hq
  have hdm : j / sz * sz + j % sz = j := Nat.div_add_mod' j sz
  have hm : j % sz < sz := Nat.mod_lt _ h0
  have hrl := hl _ (List.getElem_mem hq)
  have hg := flat_get rows hl (j / sz) _ (List.getElem?_eq_getElem hq) (j % sz) _ (List.getElem?_eq_getElem (by omega))
  rw [hdm] at hg
  rw [hg] at hj
  cases hj
  have := hc (j % sz) _ (List.getElem?_eq_getElem (by omega))
  injection hA with hA
  subst hA
  rw [Addr.add_mid, show off + j = off + j / sz * sz + j % sz by omega]
  exact this

end Go.Proofs.YtapcjojlkeaadaaGreatDoor
