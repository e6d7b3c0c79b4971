/-
  Layer 1, walks: a writer's texts and options, its bytes. Conditions: at most 2^40 bytes so far.
-/
import Derived.Test.YtapcjojlkeaadaaGreatDoorP18
import Derived.Test.YtapcjojlkeaadaaGreatDoorP03
import Derived.Test.YtapcjojlkeaadaaGreatDoorP02
import Derived.Laws.RangeString
import Derived.OpenShut
namespace Go.Proofs.YtapcjojlkeaadaaGreatDoor
open Go.RowKit
attribute [local go_sem ↓] Go.wp_at_zero Go.wp_at_succ

set_option maxRecDepth 20000 in
set_option maxHeartbeats 1600000 in
theorem wFixed_any (g : Nat) (sv : Value) (l s : List UInt8) (w : World) (hW : Wr w g sv l) (hs : s.length ≤ 1048576) (hl : l.length ≤ 1000000000000) :
    Calls Tryz.prog 87 #[ptr g, .string (bs s)] w (Wrote g sv (l ++ filled s) (.int .i64 0) w) := by
  obtain ⟨i0, hi0, hz0, hz1, hz2⟩ := info_parts infoU8
  have hsz := bs_size s
  have hc : w.cell? ⟨g, 0, none⟩ = some sv := hW.1.cell 0
  have hf := hW.1.frozen 0
  have hp := padn_lt s.length
  go_enter Tryz.func87, Tryz.ntmps87
  go_wp2_with (refine wpList_append_by (by rfl) (.tmp 16) (.tmp 17) #[69, 9] (by rfl) _ _ (by rfl) (by rfl) (run_append_bytes_at 0 69 9 _ 5 i0 Tryz.underlying69 Tryz.underlying9 hi0 hz0 hz1 hz2 sv l.length (l.map u8) hW.2 s (by omega) (Nat.zero_le _)) ?_; rintro sv1 w1 ⟨hown1, hgrow1, hat1, A1, c1, rfl⟩; have hB1 := (wr_row_ne hW (Below.refl _ _) hgrow1 hown1).1; have hc1 : w1.cell? ⟨g, 0, none⟩ = some sv := hB1.cell 0; have hf1 := hB1.frozen 0)
  have hM := moved_append (sv := sv) (m := s) hW (fun _ h => .inl h) (Touch.refl _ _) (Below.refl _ _) hgrow1 hown1 (fun k hk => by
    rcases hat1 with h | h
    · left; rw [← h]; exact hk
    · right; rw [h] at hk; simp at hk; omega)
  generalize hsv : Value.slice A1 (l.length + s.length) c1 = sv1 at *
  have HSV := Lib.hid hsv
  generalize w1.setCell ⟨g, 0, none⟩ sv1 = w2 at *
  obtain ⟨hW2, hrow2, hT2⟩ := hM
  have hc2 : w2.cell? ⟨g, 0, none⟩ = some sv1 := hW2.1.cell 0
  have hf2 := hW2.1.frozen 0
  clear hown1 hgrow1 hat1 hB1 hc1 hf1 hc hf hsv
  have HW2 := Lib.hid hW2
  have HR2 := Lib.hid hrow2
  clear hW2 hrow2
  go_region_law (first | (refine step_append_by (by rfl) (.tmp 25) (.tmp 28) #[69, 3] (by rfl) sv1 (.int .i64 (padn s.length)) (by simp [Act.eval]) (by simp [Act.eval]) (run_append_zeros_at 0 69 3 _ 5 i0 Tryz.underlying69 Tryz.underlying3 hi0 hz0 hz1 hz2 sv1 (l ++ s).length ((l ++ s).map u8) HW2.out.2.drew (padn s.length) (by simp; omega) (Nat.zero_le _)) ?_; rintro sv3 w3 ⟨hown3, hgrow3, hat3, A3, c3, rfl⟩; have hB3 := (wr_row_ne HW2.out ((Below.refl _ _).drew) hgrow3 hown3).1; have hc3 : w3.cell? ⟨g, 0, none⟩ = some sv1 := hB3.cell 0; have hf3 := hB3.frozen 0) | (go_simp; go_at_call 93; refine (pad_any _ _ (by omega)).mono ?_; rintro e w3 ⟨rfl, rfl⟩))
  all_goals
    have hM3 := moved_append (sv := sv) (m := List.replicate (padn s.length) 0) HW2.out HR2.out hT2 ((Below.refl _ _).drew) hgrow3 (by rw [← zcells_u8, List.length_replicate]; exact hown3) (fun k hk => by
      rcases hat3 with h | h
      · left; rw [← h]; exact hk
      · right; rw [h] at hk; simp at hk; simp; omega)
    go_wp2
    go_ret
    refine ⟨rfl, ?_⟩
    have e : l ++ filled s = l ++ s ++ List.replicate (padn s.length) 0 := by unfold filled; simp
    rw [e]
    simp only [List.length_append] at hM3
    exact ⟨_, hM3⟩

set_option maxHeartbeats 800000 in
theorem wOpaque_any (g : Nat) (sv : Value) (l s : List UInt8) (w : World) (hW : Wr w g sv l) (hs : s.length ≤ 1048576) (hl : l.length ≤ 999999999990) :
    Calls Tryz.prog 56 #[ptr g, .string (bs s)] w (Wrote g sv (l ++ opq s) (.int .i64 0) w) := by
  have hsz := bs_size s
  go_enter Tryz.func56, Tryz.ntmps56
  go_wp2_with fail
  refine (number_any g sv l s.length 4 _ hW (by omega) (by omega) (by omega)).mono ?_
  rintro e w1 ⟨rfl, sv1, hW1, hr1, hT1⟩
  have hR1 := Lib.hid hr1
  clear hr1
  go_wp2_with fail
  refine (wFixed_any g sv1 _ s _ hW1 hs (by simp [num_len]; omega)).mono ?_
  rintro e w2 ⟨rfl, hM⟩
  have HM := Lib.hid (Moved.next hR1.out hT1 hM)
  clear hM
  go_wp2
  go_ret
  exact ⟨rfl, by have := HM.out; rw [List.append_assoc] at this; exact this⟩

/-- an option's cells -/
theorem wOpt_any (g : Nat) (sv : Value) (l : List UInt8) (b : Bool) (n : Int) (w : World) (hW : Wr w g sv l) (hn : b = true → 0 ≤ n) (hi : n ≤ 9223372036854775807) (hl : l.length ≤ 999999999990) :
    Calls Tryz.prog 91 #[ptr g, .agg #[.bool b, .int .i64 n]] w (Wrote g sv (l ++ optB b n) (.int .i64 0) w) := by
  have hW0 := hW.alloc (.cells #[.bool b, .int .i64 n] 29)
  have hT0 : Touch (foot g sv) w (w.alloc (.cells #[.bool b, .int .i64 n] 29)) := (Touch.refl _ _).alloc _
  have hb0 : Blk (w.alloc (.cells #[.bool b, .int .i64 n] 29)) w.heap.size 29 [.bool b, .int .i64 n] := Blk.new _ _ _
  cases b
  · go_enter Tryz.func91, Tryz.ntmps91
    go_wp2_with fail
    refine (wBool_any g sv l false _ hW0 (by omega)).mono ?_
    rintro e w1 ⟨rfl, sv1, hW1, hr1, hT1⟩
    have hb1 := hW0.keeps hb0 (by decide) (by decide) hT1
    have hc1 := hb1.cell 0
    simp only [List.getElem?_cons_zero] at hc1
    have HM := Lib.hid (Moved.next (fun _ h => .inl h) hT0 ⟨sv1, hW1, hr1, hT1⟩)
    clear hr1
    go_wp2
    go_ret
    exact ⟨rfl, by unfold optB; simpa using HM.out⟩
  · have hn0 := hn rfl
    obtain ⟨m, rfl⟩ := Int.eq_ofNat_of_zero_le hn0
    go_enter Tryz.func91, Tryz.ntmps91
    go_wp2_with fail
    refine (wBool_any g sv l true _ hW0 (by omega)).mono ?_
    rintro e w1 ⟨rfl, sv1, hW1, hr1, hT1⟩
    have hb1 := hW0.keeps hb0 (by decide) (by decide) hT1
    have hc1 := hb1.cell 0
    have hc2 := hb1.cell 1
    simp only [List.getElem?_cons_zero, List.getElem?_cons_succ] at hc1 hc2
    have HR1 := Lib.hid hr1
    clear hr1
    go_wp2_with fail
    refine (wU64_any g sv1 _ m _ hW1 (by omega) (by simp [truth, num_len]; omega)).mono ?_
    rintro e w2 ⟨rfl, hM⟩
    have HM := Lib.hid (Moved.next (fun _ h => .inl h) hT0 (Moved.next HR1.out hT1 hM))
    clear hM
    go_wp2
    go_ret
    exact ⟨rfl, by unfold optB; have := HM.out; rw [List.append_assoc] at this; simpa using this⟩
theorem wOpt_bad (g : Nat) (n : Int) (w : World) (hn : n < 0) :
    Calls Tryz.prog 91 #[ptr g, .agg #[.bool true, .int .i64 n]] w fun e w' => e = .returned (.int .i64 3) ∧ Below w.heap.size w w' := by
  go_enter Tryz.func91, Tryz.ntmps91
  go_wp2
  go_ret
  exact ⟨rfl, (Below.refl _ _).alloc (Nat.le_refl _) _⟩

theorem wText_any (g : Nat) (sv : Value) (l : List UInt8) (w : World) (hW : Wr w g sv l) :
    Calls Tryz.prog 32 #[ptr g] w fun e w' => e = .returned (.string (bs l)) ∧ w = w' := by
  have hc : w.cell? ⟨g, 0, none⟩ = some sv := hW.1.cell 0
  have hcv := run_row_string (P := Tryz.prog) (dst := 9) Tryz.underlying69 Tryz.underlying5 Tryz.underlying9 hW.2
  go_enter Tryz.func32, Tryz.ntmps32
  go_wp2
  go_ret
  exact ⟨rfl, rfl⟩
end Go.Proofs.YtapcjojlkeaadaaGreatDoor

/-
  A text that is ranged over, its iterator anywhere in memory: plain letters alone (below 128). No other condition.
-/
namespace Go.Proofs.YtapcjojlkeaadaaGreatDoor
open Go.RowKit

/-- block b is the iterator of a text, at a place -/
def Itr (w : World) (b : Nat) (l : List UInt8) (pos : Nat) : Prop := w.heap[b]? = some (.stringIter (bs l) pos)
/-- an iterator is set to a place -/
def _root_.Go.World.setIter (w : World) (b : Nat) (l : List UInt8) (pos : Nat) : World := { w with heap := w.heap.setIfInBounds b (.stringIter (bs l) pos) }
section
variable {w w' : World} {b : Nat} {l : List UInt8} {pos : Nat}
theorem Itr.lt (h : Itr w b l pos) : b < w.heap.size := by
  rcases Nat.lt_or_ge b w.heap.size with hlt | hge
  · exact hlt
  · unfold Itr at h; rw [Array.getElem?_eq_none hge] at h; cases h
theorem Itr.new (w : World) (l : List UInt8) : Itr (w.iter (bs l) 0) w.heap.size l 0 := World.iter_heap w (bs l) 0
theorem Itr.below {B : Nat} (h : Itr w b l pos) (hb : Below B w w') (hg : b < B) : Itr w' b l pos := (hb.block b hg).trans h
theorem Itr.stays (h : Itr w b l pos) (hb : Below w.heap.size w w') : Itr w' b l pos := h.below hb h.lt
theorem Itr.touch {F : Nat → Prop} (h : Itr w b l pos) (hb : Touch F w w') (hn : ¬ F b) : Itr w' b l pos := (hb.block b h.lt hn).trans h
theorem Itr.set_ (h : Itr w b l pos) (p : Nat) : Itr (w.setIter b l p) b l p := by
  have hl := h.lt
  unfold Itr World.setIter
  simp [hl]
theorem heap_setIter (w : World) (b : Nat) (l : List UInt8) (p k : Nat) (h : k ≠ b) : (w.setIter b l p).heap[k]? = w.heap[k]? := by
  unfold World.setIter
  simp [Ne.symm h]
theorem Below.setIter {B : Nat} {a : World} (h : Below B a w) (hb : B ≤ b) (l : List UInt8) (p : Nat) : Below B a (w.setIter b l p) :=
  ⟨h.os, h.tape, h.output, by have := h.size; simpa [World.setIter] using this, fun k hk => (heap_setIter w b l p k (by omega)).trans (h.block k hk)⟩
theorem Blk.farIter {g : Nat} {T : TypeId} {cs : List Value} (h : Blk w g T cs) (hg : g ≠ b) (l : List UInt8) (p : Nat) : Blk (w.setIter b l p) g T cs := (heap_setIter w b l p g hg).trans h
theorem Touch.setIter {F : Nat → Prop} {a : World} (h : Touch F a w) (hb : F b ∨ a.heap.size ≤ b) (l : List UInt8) (p : Nat) : Touch F a (w.setIter b l p) :=
  ⟨h.os, h.tape, h.output, by have := h.size; simpa [World.setIter] using this, fun k hk hn => (heap_setIter w b l p k (fun e => by subst e; rcases hb with hb | hb; exact hn hb; omega)).trans (h.block k hk hn)⟩
variable {P : Program}
theorem run_next_itr (h : Itr w b l pos) (hp : pos < l.length) (ha : l[pos].toNat < 128) (ty : TypeId) :
    (Instr.next (.pointer (some ⟨b, 0, none⟩)) true ty).run P w = .ok (.tuple #[.bool true, .int .i64 pos, .int .i32 l[pos].toNat]) (w.setIter b l (pos + 1)) := by
  have hd := decode_ascii (bs l) pos hp ha
  have hs : pos < (bs l).size := hp
  unfold Itr at h
  simp only [Instr.next, getObj, setObj, Sem.run_bind, Sem.run, h, Result.andThen, hs, if_true, hd]
  simp [goInt, World.setIter, bs_get]
theorem run_next_itr_end (h : Itr w b l pos) (hp : ¬ pos < l.length) (ty : TypeId) :
    (Instr.next (.pointer (some ⟨b, 0, none⟩)) true ty).run P w = .ok (.tuple #[.bool false]) w := by
  have hs : ¬ pos < (bs l).size := hp
  unfold Itr at h
  simp [Instr.next, getObj, Sem.run, h, hs]
end
end Go.Proofs.YtapcjojlkeaadaaGreatDoor


/-
  Layer 8, walks: what must come of fixed calls; the law ReplyFields. No condition.
-/
namespace Go.Proofs.YtapcjojlkeaadaaGreatDoor
open Go.RowKit
attribute [local go_sem ↓] Go.wp_at_zero Go.wp_at_succ
attribute [local go_sem] rowAt_ptr rowOf_drew rowOf_drewN rowOf_alloc_past rowOf_new
attribute [local go_sem ↓] ldReply

attribute [local go_sem] Reply.at0 Reply.lat0 Reply.at1 Reply.lat1 Reply.at2 Reply.lat2 Reply.at3 Reply.lat3 Reply.at4 Reply.lat4 Reply.at5 Reply.lat5 Reply.at6 Reply.lat6 Reply.at7 Reply.lat7 Reply.at8 Reply.lat8 Reply.at9 Reply.lat9 Reply.at10 Reply.lat10 Reply.at11 Reply.lat11 Reply.at12 Reply.lat12 Reply.at13 Reply.lat13 Reply.at14 Reply.lat14 Reply.at15 Reply.lat15 Reply.at16 Reply.lat16 Reply.at17 Reply.lat17 Reply.at18 Reply.lat18 Reply.at19 Reply.lat19 Reply.at20 Reply.lat20 Reply.at21 Reply.lat21 Reply.at22 Reply.lat22 Reply.at23 Reply.lat23 Reply.at24 Reply.lat24 Reply.at25 Reply.lat25 Reply.at26 Reply.lat26 Reply.at27 Reply.lat27 Reply.at28 Reply.lat28 Reply.at29 Reply.lat29 Reply.at30 Reply.lat30 Reply.at31 Reply.lat31 Reply.at32 Reply.lat32 Reply.at33 Reply.lat33 Reply.at34 Reply.lat34 Reply.at35 Reply.lat35 Reply.at36 Reply.lat36 Reply.at37 Reply.lat37 Reply.at38 Reply.lat38 Reply.at39 Reply.lat39 Reply.at40 Reply.lat40 Reply.at41 Reply.lat41 Reply.at42 Reply.lat42 Reply.at43 Reply.lat43 Reply.at44 Reply.lat44 Reply.at45 Reply.lat45 Reply.at46 Reply.lat46 Reply.at47 Reply.lat47 Reply.at48 Reply.lat48 Reply.at49 Reply.lat49 Reply.at50 Reply.lat50 Reply.at51 Reply.lat51 Reply.at52 Reply.lat52 Reply.at53 Reply.lat53 Reply.at54 Reply.lat54 Reply.at55 Reply.lat55 Reply.at56 Reply.lat56 Reply.at57 Reply.lat57 Reply.sub0_58 Reply.lsub0_58 Reply.sub2_11 Reply.lsub2_11 Reply.sub3_10 Reply.lsub3_10 Reply.sub13_11 Reply.lsub13_11 Reply.sub14_10 Reply.lsub14_10 Reply.sub24_13 Reply.lsub24_13 Reply.sub24_2 Reply.lsub24_2 Reply.sub26_11 Reply.lsub26_11 Reply.sub27_10 Reply.lsub27_10 Reply.sub37_13 Reply.lsub37_13 Reply.sub37_2 Reply.lsub37_2 Reply.sub39_11 Reply.lsub39_11 Reply.sub40_10 Reply.lsub40_10 Reply.len

def r70 : Reply := ⟨70, [], postZ8, postZ8, ⟨⟨false, 0⟩, postZ8⟩, ⟨⟨false, 0⟩, postZ8⟩, 0, 0, false, [], 0, 0, none, 0, 0, none, 0, 0⟩
theorem same70_any (w : World) : Calls Tryz.prog 54 #[.agg r70.vals.toArray, .agg r70.vals.toArray] w fun e w' => e = .returned (.bool true) ∧ Below w.heap.size w w' := by
  have h := same8_any r70 r70 true true w (fun W _ => (equalE_nil W).mono fun e w' ⟨h1, h2⟩ => ⟨h1, h2 ▸ Below.refl _ _⟩) (fun W _ => (equalI_nil W).mono fun e w' ⟨h1, h2⟩ => ⟨h1, h2 ▸ Below.refl _ _⟩)
  rw [decide_eq_true rfl] at h
  exact h
theorem pKnown70 : pKnown 70 = true := by decide
theorem pFields10 : pFields 1 false = [] := rfl
theorem pFields31 : pFields 3 true = [104, 97, 68] := rfl

set_option maxRecDepth 20000 in
set_option maxHeartbeats 800000 in
theorem check70_any (w : World) : Calls Tryz.prog 29 #[.int .i64 1, .agg r70.vals.toArray] w fun e w' => e = .returned (.int .i64 0) ∧ Below w.heap.size w w' := by
  have hA := Blk.new w 35 r70.vals
  have hB : Below w.heap.size w (w.alloc (.cells r70.vals.toArray 35)) := (Below.refl _ _).alloc (Nat.le_refl _) _
  have hk := fun W => replyKnown_any 70 W
  rw [pKnown70] at hk
  have hf := fun W => replyFields_any 1 false W
  rw [pFields10] at hf
  obtain ⟨r, hr⟩ : ∃ r, r = r70 := ⟨_, rfl⟩
  have HR := Lib.hid hr
  have hS := same70_any
  rw [← hr] at hA hB hS ⊢
  have hst0 : r.vals[0]? = some (.int .i64 70) := by rw [hr]; rfl
  clear hr
  have hcA := hA.cell 0
  rw [hst0] at hcA
  go_enter Tryz.func29, Tryz.ntmps29
  go_wp2_with fail
  change Calls _ _ _ (w.alloc (.cells r.vals.toArray 35)) _
  generalize w.alloc (.cells r.vals.toArray 35) = w1 at *
  refine (there8_any 1 _ (by decide)).mono ?_
  rintro e w2 ⟨rfl, rfl⟩
  go_wp2_with fail
  refine (hk _).mono ?_
  rintro e w2 ⟨rfl, hx⟩
  have hA2 := hA.stays hx
  have hB2 := below_then hB hx
  have hcA2 := hA2.cell 0
  rw [hst0] at hcA2
  clear hA hB hcA hx hk
  have hP3 := Blk.new w2 35 r.vals
  have hA3 := hA2.alloc (.cells r.vals.toArray 35)
  have hB3 := hB2.alloc hB2.size (.cells r.vals.toArray 35)
  obtain ⟨w3, hw3⟩ : ∃ u, u = w2.alloc (.cells r.vals.toArray 35) := ⟨_, rfl⟩
  rw [← hw3] at hP3 hA3 hB3
  have HW3 := Lib.hid hw3
  have hcA3 := hA3.cell 0
  rw [hst0] at hcA3
  clear hw3 hA2 hB2
  have tok : True := trivial
  go_wp2_with (first
    | (clear tok; refine wpList_new_struct (by rfl) (by rfl) 35 (by rfl) _ _ (by rfl) r.vals infoReply (by rfl) (by rfl) (Reply.one _) (by rfl) (by rw [HR.out]; rfl) ?_; rw [← HW3.out])
    | fail)
  refine (hf _).mono ?_
  rintro e w4 ⟨rfl, hx⟩
  have hA4 := hA3.stays hx
  have hP4 := hP3.stays hx
  have hB4 := below_then hB3 hx
  clear hA3 hP3 hB3 hcA3 hcA2 hx hf
  have hI := Itr.new w4 []
  have hx : Below w4.heap.size w4 (w4.iter (bs []) 0) := (Below.refl _ _).alloc (Nat.le_refl _) (.stringIter (bs []) 0)
  have hA5 := hA4.stays hx
  have hP5 := hP4.stays hx
  have hB5 := below_then hB4 hx
  clear hA4 hP4 hB4 hx
  go_wp2
  change Code.wp _ _ _ _ (w4.iter (bs []) 0)
  generalize w4.iter (bs []) 0 = w5 at *
  generalize w4.heap.size = ib at *
  have hn := fun ty => run_next_itr_end (P := Tryz.prog) hI (by simp) ty
  have rA : rowOf w5 w.heap.size 0 58 = some r.vals.toArray := hA5.row 0 58 (by simp [Reply.len])
  have rP : rowOf w5 w2.heap.size 0 58 = some r.vals.toArray := hP5.row 0 58 (by simp [Reply.len])
  clear hA5 hP5 hI hst0 HR
  go_loopw [7] (fun _ wr => wr = w5) (fun _ _ => 0)
  case atStart => rfl
  case round =>
    obtain rfl := hrel
    go_wp2_with fail
    refine (hS _).mono ?_
    rintro e w6 ⟨rfl, hx⟩
    go_wp2
    go_ret
    exact ⟨rfl, below_then hB5 hx⟩
end Go.Proofs.YtapcjojlkeaadaaGreatDoor


/-
  Layer 1: a thing that is written or read, its cells, its bytes, and what is wrong with it. No condition.
-/
namespace Go.Proofs.YtapcjojlkeaadaaGreatDoor
open Go.RowKit

structure Thing where
  kind : Int
  n : Int
  is : Bool
  s : List UInt8
def Thing.vals (x : Thing) : List Value := [.int .i64 x.kind, .int .i64 x.n, .bool x.is, .string (bs x.s)]
theorem Thing.len (x : Thing) : x.vals.length = 4 := rfl
theorem Thing.one (x : Thing) : ∀ v ∈ x.vals, v.oneCell' = true := by
  intro v hv
  unfold Thing.vals at hv
  simp only [List.mem_cons, List.not_mem_nil, or_false] at hv
  rcases hv with rfl | rfl | rfl | rfl <;> rfl
def Thing.good (x : Thing) : Prop := (Lit.int .i64 x.kind).wf = true ∧ (Lit.int .i64 x.n).wf = true ∧ x.s.length ≤ maxLen
instance : Inhabited Thing := ⟨⟨0, 0, false, []⟩⟩

def Thing.err (t : Thing) : Int :=
  if t.kind = 1 then (if t.n < 0 ∨ 4294967295 < t.n then 3 else 0)
  else if t.kind = 2 then (if t.n < 0 then 3 else 0)
  else if t.kind = 6 then (if t.is = true ∧ t.n < 0 then 3 else 0)
  else 0
def Thing.bytes (t : Thing) : List UInt8 :=
  if t.kind = 1 then (if t.n < 0 ∨ 4294967295 < t.n then [] else num t.n.toNat 4)
  else if t.kind = 2 then (if t.n < 0 then [] else num t.n.toNat 8)
  else if t.kind = 3 then truth t.is
  else if t.kind = 4 then filled t.s
  else if t.kind = 5 then opq t.s
  else if t.kind = 6 then (if t.is = true ∧ t.n < 0 then [] else optB t.is t.n)
  else []
theorem Thing.bytes_len (t : Thing) : t.bytes.length ≤ t.s.length + 16 := by
  have hp := padn_lt t.s.length
  unfold Thing.bytes truth optB truth opq
  repeat' split
  all_goals simp [num_len, filled_len]
  all_goals omega

/-- a new writer -/
theorem Wr.fresh (w : World) : Wr (w.alloc (.cells #[.slice none 0 0] 71)) w.heap.size (.slice none 0 0) [] := ⟨Blk.new _ _ _, World.ownsRow_nil _ _ _ _⟩
theorem Moved.below {g : Nat} {sv : Value} {l : List UInt8} {B : Nat} {w w' : World} (h : Moved g sv l w w') (hg : B ≤ g) (hs : ∀ k, sv.ownBlock = some k → B ≤ k) (hB : B ≤ w.heap.size) : Below B w w' := by
  obtain ⟨_, _, _, ht⟩ := h
  refine ht.below (fun k _ hf => ?_) hB
  rcases hf with rfl | hf
  · exact hg
  · exact hs k hf
end Go.Proofs.YtapcjojlkeaadaaGreatDoor
