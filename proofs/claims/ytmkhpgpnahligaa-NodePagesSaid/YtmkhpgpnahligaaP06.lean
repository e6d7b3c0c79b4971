/-
  Layer 1, what lies in memory: a writer and its row, a reader, the reference's reader. No condition.
-/
import Derived.Test.YtmkhpgpnahligaaProg
import Derived.Test.YtmkhpgpnahligaaP05
import Derived.Test.YtmkhpgpnahligaaP04
import Derived.Deep.Light
import Derived.Laws.Bits64b
import Derived.Test.YtmkhpgpnahligaaP01
import Derived.Test.YtmkhpgpnahligaaP02
namespace Go.Proofs.Ytmkhpgpnahligaa
open Go.RowKit

/-- a writer at block g: its slice's value, and the bytes that it holds -/
def Wr (w : World) (g : Nat) (sv : Value) (l : List UInt8) : Prop := Blk w g 77 [sv] ∧ w.ownsRow 0 5 1 sv l.length (l.map u8)
/-- the blocks that a writer may change -/
def foot (g : Nat) (sv : Value) (k : Nat) : Prop := k = g ∨ sv.ownBlock = some k
/-- the writer has come to hold these bytes; all else that was there is as it was -/
def MovedTo (g : Nat) (sv sv' : Value) (l : List UInt8) (w w' : World) : Prop := Wr w' g sv' l ∧ (∀ k, sv'.ownBlock = some k → sv.ownBlock = some k ∨ w.heap.size ≤ k) ∧ Touch (foot g sv) w w'
def Moved (g : Nat) (sv : Value) (l : List UInt8) (w w' : World) : Prop := ∃ sv', MovedTo g sv sv' l w w'
theorem Moved.refl {g : Nat} {sv : Value} {l : List UInt8} {w : World} (h : Wr w g sv l) : Moved g sv l w w := ⟨sv, h, fun _ e => .inl e, Touch.refl _ _⟩
theorem Moved.size {g : Nat} {sv : Value} {l : List UInt8} {w w' : World} (h : Moved g sv l w w') : w.heap.size ≤ w'.heap.size := by obtain ⟨_, _, _, h⟩ := h; exact h.size
theorem Wr.row_ne {g : Nat} {sv : Value} {l : List UInt8} {w : World} (h : Wr w g sv l) : sv.ownBlock ≠ some g := Blk.own_ne h.2 h.1 (by decide)
theorem Wr.row_lt {g : Nat} {sv : Value} {l : List UInt8} {w : World} (h : Wr w g sv l) {k : Nat} (hk : sv.ownBlock = some k) : k < w.heap.size := (h.2.lt k hk).2
theorem foot_next {g : Nat} {sv sv1 : Value} {w : World} (hrow : ∀ k, sv1.ownBlock = some k → sv.ownBlock = some k ∨ w.heap.size ≤ k) : ∀ i, i < w.heap.size → foot g sv1 i → foot g sv i := fun i hi hf => by
  rcases hf with rfl | hf
  · exact .inl rfl
  · rcases hrow i hf with h | h
    · exact .inr h
    · omega
theorem MovedTo.next {g : Nat} {sv sv1 sv2 : Value} {l : List UInt8} {w w1 w2 : World} (hrow : ∀ k, sv1.ownBlock = some k → sv.ownBlock = some k ∨ w.heap.size ≤ k) (ht : Touch (foot g sv) w w1) (h : MovedTo g sv1 sv2 l w1 w2) : MovedTo g sv sv2 l w w2 := by
  obtain ⟨hw, hr, ht2⟩ := h
  refine ⟨hw, fun k hk => ?_, ht.trans ht2 (foot_next hrow)⟩
  rcases hr k hk with h | h
  · exact hrow k h
  · exact .inr (Nat.le_trans ht.size h)
theorem Moved.next {g : Nat} {sv sv1 : Value} {l : List UInt8} {w w1 w2 : World} (hrow : ∀ k, sv1.ownBlock = some k → sv.ownBlock = some k ∨ w.heap.size ≤ k) (ht : Touch (foot g sv) w w1) (h : Moved g sv1 l w1 w2) : Moved g sv l w w2 := by
  obtain ⟨sv2, hw, hr, ht2⟩ := h
  refine ⟨sv2, hw, fun k hk => ?_, ht.trans ht2 (foot_next hrow)⟩
  rcases hr k hk with h | h
  · exact hrow k h
  · exact .inr (Nat.le_trans ht.size h)
/-- a block of another kind stands while a writer is written -/
theorem Wr.keeps {g : Nat} {sv : Value} {l : List UInt8} {w w' : World} {k : Nat} {T : TypeId} {cs : List Value} (h : Wr w g sv l) (hb : Blk w k T cs) (h1 : T ≠ 77) (h2 : T ≠ 5) (ht : Touch (foot g sv) w w') : Blk w' k T cs :=
  hb.touch ht fun hf => by
    rcases hf with rfl | hf
    · exact Blk.ne_ h.1 hb (Ne.symm h1) rfl
    · exact Blk.own_ne h.2 hb (Ne.symm h2) hf
/-- a writer stands while what is none of its blocks is changed -/
theorem Wr.touch {g : Nat} {sv : Value} {l : List UInt8} {w w' : World} {F : Nat → Prop} (h : Wr w g sv l) (ht : Touch F w w') (hn : ∀ k, foot g sv k → ¬ F k) : Wr w' g sv l :=
  ⟨h.1.touch ht (hn g (.inl rfl)), ownsRow_touch h.2 ht fun k hk => hn k (.inr hk)⟩
theorem Wr.stays {g : Nat} {sv : Value} {l : List UInt8} {w w' : World} (h : Wr w g sv l) (hb : Below w.heap.size w w') : Wr w' g sv l := h.touch (Touch.of_below hb (fun _ => False)) fun _ _ hf => hf
theorem Wr.alloc {g : Nat} {sv : Value} {l : List UInt8} {w : World} (h : Wr w g sv l) (o : Obj) : Wr (w.alloc o) g sv l := h.stays ((Below.refl _ _).alloc (Nat.le_refl _) o)
theorem wr_row_ne {g : Nat} {sv sv2 : Value} {l : List UInt8} {n : Nat} {xs : List Value} {w W0 w1 : World} (hW : Wr w g sv l) (hb0 : Below w.heap.size w W0) (hgrow : W0.grownBy w1 sv.ownBlock) (hown : w1.ownsRow 0 5 1 sv2 n xs) : Blk w1 g 77 [sv] ∧ sv2.ownBlock ≠ some g := by
  have h1 : Blk w1 g 77 [sv] := (hW.1.stays hb0).grown hgrow hW.row_ne
  exact ⟨h1, Blk.own_ne hown h1 (by decide)⟩
/-- more bytes have been put behind those of a writer, and its field has been set -/
theorem moved_append {g : Nat} {sv sv1 sv2 : Value} {l m : List UInt8} {w wr W0 w1 : World} (hW : Wr wr g sv1 l) (hrow : ∀ k, sv1.ownBlock = some k → sv.ownBlock = some k ∨ w.heap.size ≤ k) (hT : Touch (foot g sv) w wr)
    (hb0 : Below wr.heap.size wr W0) (hgrow : W0.grownBy w1 sv1.ownBlock) (hown : w1.ownsRow 0 5 1 sv2 (l.length + m.length) (l.map u8 ++ m.map u8)) (hat : ∀ k, sv2.ownBlock = some k → sv1.ownBlock = some k ∨ W0.heap.size ≤ k) :
    MovedTo g sv sv2 (l ++ m) w (w1.setCell ⟨g, 0, none⟩ sv2) := by
  obtain ⟨hB, hne⟩ := wr_row_ne hW hb0 hgrow hown
  refine MovedTo.next hrow hT ⟨⟨?_, ?_⟩, ?_, ?_⟩
  · have := hB.set_ 0 sv2
    simpa using this
  · have := ownsRow_setCell_other hown (a := ⟨g, 0, none⟩) hne sv2
    simpa using this
  · intro k hk
    rcases hat k hk with h | h
    · exact .inl h
    · exact .inr (Nat.le_trans hb0.size h)
  · exact ((Touch.of_below hb0 (foot g sv1)).then_ ((Touch.of_grown hgrow fun k hk => .inr hk).mono fun _ _ h => h)).setCell (.inl (.inl rfl)) _
/-- a call on a writer: what it returns, and what the writer holds behind it -/
def Wrote (g : Nat) (sv : Value) (l : List UInt8) (v : Value) (w : World) (e : Ending) (w' : World) : Prop := e = .returned v ∧ Moved g sv l w w'

theorem num_get (n : Nat) : ∀ (k j : Nat) (h : j < k), (num n k)[j]'(by rw [num_len]; exact h) = UInt8.ofNat (n / 256 ^ (k - 1 - j)) := by
  intro k
  induction k with
  | zero => intro j h; omega
  | succ k ih =>
    intro j h
    match j, h with
    | 0, _ => simp [num_cons]
    | j + 1, h =>
      have := ih j (by omega)
      simp only [num_cons, List.getElem_cons_succ, this]
      congr 3
      omega
theorem num_take (n k m : Nat) (hm : 0 < m) (hmk : m ≤ k) : (num n k).take (k - (m - 1)) = (num n k).take (k - m) ++ [UInt8.ofNat (n / 256 ^ (m - 1))] := by
  have h : k - m < (num n k).length := by rw [num_len]; omega
  have e : k - 1 - (k - m) = m - 1 := by omega
  rw [show k - (m - 1) = k - m + 1 by omega, List.take_succ_eq_append_getElem h, num_get n k (k - m) (by omega), e]
end Go.Proofs.Ytmkhpgpnahligaa

/-
  Layer 1, walks: a reader takes bytes. Conditions: a reader at a block of its own; texts are machine texts.
-/
namespace Go.Proofs.Ytmkhpgpnahligaa
open Go.RowKit
attribute [local go_sem ↓] Go.wp_at_zero Go.wp_at_succ
attribute [local go_sem] rowAt_ptr rowOf_drew rowOf_drewN rowOf_alloc_past rowOf_new
attribute [local go_sem] bs_take bs_drop

theorem Touch.setCell_ {F : Nat → Prop} {a b : World} (h : Touch F a b) {g o : Nat} (hp : F g ∨ a.heap.size ≤ g) (u : Value) : Touch F a (b.setCell ⟨g, o, none⟩ u) := h.setCell (p := ⟨g, o, none⟩) hp u

theorem Touch.setCells {F : Nat → Prop} {a : World} {g : Nat} (hp : F g ∨ a.heap.size ≤ g) : ∀ (vs : List Value) (o : Nat) (b : World), Touch F a b → Touch F a (b.setCells g o vs)
  | [], _, _, h => h
  | v :: vs, o, b, h => by
    rw [World.setCells]
    exact Touch.setCells hp vs (o + 1) _ (h.setCell_ hp v)
/-- '[]byte(s)' -/
def rowsU8 (l : List UInt8) : List (List Value) := l.map fun c => [u8 c]
theorem conv_bytes {P : Program} (w : World) (src dst e : TypeId) (l : List UInt8) (hs : P.underlying src = some .string) (hd : P.underlying dst = some (.slice e)) (he : P.underlying e = some (.int .u8)) :
    ∃ cap W', (convert src dst (.string (bs l))).run P w = .ok (.slice (some ⟨w.heap.size, 0, none⟩) l.length cap) W' ∧ At W' 1 (some ⟨w.heap.size, 0, none⟩) (rowsU8 l) ∧ Below w.heap.size w W' ∧ w.heap.size < W'.heap.size := by
  refine ⟨_, _, run_bytes_of_string w src dst e (bs l) hs hd he, ?_, ((Below.refl _ _).drew).alloc (Nat.le_refl _) _, by simp⟩
  intro i r hr
  simp only [rowsU8, List.getElem?_map, Option.map_eq_some_iff] at hr
  obtain ⟨c, hc, rfl⟩ := hr
  have hi : i < l.length := (List.getElem?_eq_some_iff.1 hc).1
  refine ⟨w.heap.size, 0, rfl, by simp, fun j u hu => ?_⟩
  obtain rfl : j = 0 := by
    have := (List.getElem?_eq_some_iff.1 hu).1
    simp at this
    exact this
  simp only [List.getElem?_cons_zero, Option.some.injEq] at hu
  subst hu
  have h1 := World.cell?_alloc_mark w.drew (bytesRow (bs l) (grownCap w (bs l).size 0 e)) e ((bytesRow (bs l) (grownCap w (bs l).size 0 e)).size, (bytesRow (bs l) (grownCap w (bs l).size 0 e)).size + 1) i
  have h2 := bytesRow_at (bs l) (grownCap w (bs l).size 0 e) i (by simpa using hi)
  have h3 : (bs l).data[i]'(by simpa using hi) = c := by
    have := (List.getElem?_eq_some_iff.1 hc).2
    simpa using this
  rw [h3] at h2
  simpa [Nat.mul_one, u8] using h1.trans h2
theorem rowsU8_cell {w : World} {b : Nat} {l : List UInt8} (h : At w 1 (some ⟨b, 0, none⟩) (rowsU8 l)) {k : Nat} (hk : k < l.length) : w.cell? ⟨b, k, none⟩ = some (.int .u8 (l[k].toNat : Int)) := by
  obtain ⟨b', off, he, -, hc⟩ := h.getD (k := k) (by simpa [rowsU8] using hk)
  injection he with he
  injection he with h1 h2
  subst h1; subst h2
  have := hc 0 (u8 l[k]) (by simp [rowsU8])
  simpa [u8] using this

theorem or_step (v c : Nat) (hv : v < 72057594037927936) (hc : c < 256) : bits .or .u64 (IntKind.u64.wrap ((v : Int) * 256)) (IntKind.u64.wrap (c : Int)) = ((v * 256 + c : Nat) : Int) := by
  have e1 : IntKind.u64.wrap ((v : Int) * 256) = ((v * 256 : Nat) : Int) := by rw [IntKind.wrap_u64]; omega
  have e2 : IntKind.u64.wrap (c : Int) = (c : Int) := by rw [IntKind.wrap_u64]; omega
  rw [e1, e2, bits_or_u64_nat _ _ (by omega) (by omega)]
  congr 1
  have := Nat.shiftLeft_add_eq_or_of_lt (i := 8) (b := c) (by omega) v
  rw [Nat.shiftLeft_eq, show (2 : Nat) ^ 8 = 256 from rfl] at this
  omega

end Go.Proofs.Ytmkhpgpnahligaa


/-
  Layer 1, walks: a reader takes numbers, truths and options. Conditions: a reader at a block of its own; texts are machine texts.
-/
namespace Go.Proofs.Ytmkhpgpnahligaa
open Go.RowKit
attribute [local go_sem ↓] Go.wp_at_zero Go.wp_at_succ
attribute [local go_sem] rowAt_ptr rowOf_drew rowOf_drewN rowOf_alloc_past rowOf_new

theorem rNum_err {k : Nat} {r : Rs} (h : r.e ≠ 0) : rNum k r = (0, r) := by simp [rNum, h]
theorem rNum_short {k : Nat} {s : List UInt8} (h : s.length < k) : rNum k ⟨s, 0⟩ = (0, Rs.fail 10) := by simp [rNum, h]
theorem rNum_ok {k : Nat} {s : List UInt8} (h : k ≤ s.length) : rNum k ⟨s, 0⟩ = (beVal (s.take k), ⟨s.drop k, 0⟩) := by
  have : ¬ s.length < k := by omega
  simp [rNum, this]

theorem rNum_lt {k : Nat} {r : Rs} (_h : r.s.length ≤ 9223372036854775807) : (rNum k r).1 < 256 ^ k ∧ (rNum k r).2.s.length ≤ r.s.length := by
  unfold rNum
  split
  · exact ⟨Nat.pow_pos (by omega), Nat.le_refl _⟩
  · split
    · exact ⟨Nat.pow_pos (by omega), by simp [Rs.fail]⟩
    · have := beVal_lt (r.s.take k)
      rw [List.length_take, Nat.min_eq_left (by omega)] at this
      exact ⟨this, by simp⟩

theorem rU32_len {r : Rs} (h : r.s.length ≤ 9223372036854775807) : (rU32 r).2.s.length ≤ r.s.length := (rNum_lt (k := 4) h).2
theorem rU64_len {r : Rs} (h : r.s.length ≤ 9223372036854775807) : (rU64 r).2.s.length ≤ r.s.length := by
  unfold rU64
  split
  · simp [Rs.fail]
  · exact (rNum_lt (k := 8) h).2
theorem rBool_len {r : Rs} (h : r.s.length ≤ 9223372036854775807) : (rBool r).2.s.length ≤ r.s.length := by
  unfold rBool
  split
  · simp [Rs.fail]
  · exact rU32_len h
theorem rOpt_len {r : Rs} (h : r.s.length ≤ 9223372036854775807) : (rOpt r).2.s.length ≤ r.s.length := by
  have h1 := rBool_len h
  have h2 := rU64_len (r := (rBool r).2) (by omega)
  unfold rOpt
  split
  · split <;> (simp only; omega)
  · exact h1

theorem infoOptR : (Try.prog.info? 41).map (fun i => (i.zero, i.size)) = some (some (.agg #[.bool false, .int .i64 0]), 2) := by kernel_rfl
/-- an option that was read -/
def optV (o : Bool × Nat) : List Value := [.bool o.1, .int .i64 o.2]

theorem optV_one (o : Bool × Nat) : ∀ v ∈ optV o, v.oneCell' = true := by
  intro v hv
  simp only [optV, List.mem_cons, List.not_mem_nil, or_false] at hv
  rcases hv with rfl | rfl <;> rfl

end Go.Proofs.Ytmkhpgpnahligaa


/-
  Plain laws of lists: a search up to a number of elements. No condition.
-/
namespace Go.Proofs.Ytmkhpgpnahligaa
variable {α : Type}

theorem take_next (l : List α) (k : Nat) (hk : k < l.length) : l.take (k + 1) = l.take k ++ [l[k]] := List.take_succ_eq_append_getElem hk
/-- among the first N some one is so, or there are more than N -/
def over (p : α → Bool) (N : Nat) (l : List α) : Bool := (l.take N).any p || decide (N < l.length)
theorem over_yes {p : α → Bool} {N : Nat} {l : List α} {k : Nat} (hk : k < l.length) (h7 : k < N) (h : p l[k] = true) : over p N l = true := by
  have h1 : l[k] ∈ l.take N := by
    have : (l.take N)[k]? = some l[k] := by rw [List.getElem?_take, if_pos h7]; exact List.getElem?_eq_getElem hk
    exact List.mem_of_getElem? this
  unfold over; rw [List.any_eq_true.2 ⟨_, h1, h⟩]; rfl
theorem over_step {p : α → Bool} {l : List α} {k : Nat} (hk : k < l.length) (hn : (l.take k).any p = false) (h : p l[k] = false) : (l.take (k + 1)).any p = false := by
  rw [take_next _ _ hk, List.any_append, hn]; simp [h]
theorem over_end {p : α → Bool} {N : Nat} {l : List α} {k : Nat} (hk : k ≤ l.length) (hkN : k ≤ N) (hn : (l.take k).any p = false) (he : ¬ (k < l.length ∧ k < N)) : over p N l = decide ((N : Int) < (l.length : Int)) := by
  unfold over
  have : (l.take N).any p = false := by
    rcases Nat.lt_or_ge k N with h | h
    · rw [List.take_of_length_le (by omega)]
      rw [List.take_of_length_le (by omega)] at hn
      exact hn
    · obtain rfl : k = N := by omega
      exact hn
  rw [this, Bool.false_or]
  exact decide_eq_decide.2 (by omega)
theorem over_no {p : α → Bool} {N : Nat} {l : List α} (h : over p N l = false) : l.length ≤ N ∧ ∀ x ∈ l, p x = false := by
  unfold over at h
  rw [Bool.or_eq_false_iff] at h
  obtain ⟨h1, h2⟩ := h
  have hl : l.length ≤ N := by simpa using h2
  refine ⟨hl, fun t ht => ?_⟩
  rw [List.take_of_length_le hl] at h1
  simpa using List.any_eq_false.1 h1 t ht
end Go.Proofs.Ytmkhpgpnahligaa


/-
  Layer 5 in plain words: what attributes, and what is to be set, may be; their bytes; what becomes of them. No condition.
-/
namespace Go.Proofs.Ytmkhpgpnahligaa

def okN (n most : Int) : Bool := decide (0 ≤ n) && decide (n ≤ most)
def Opt.ok (o : Opt) (most : Int) : Bool := if o.is then okN o.n most else o.n == 0
def Sett.ok (s : Sett) : Bool := s.mode.ok 4095 && (s.uid.ok 4294967295 && (s.gid.ok 4294967295 && (s.size.ok 9223372036854775807 && s.time.ok 9223372036854775807)))
def form (b : Bool) : Int := if b then 0 else 14
def Opt.bytes (o : Opt) : List UInt8 := optB o.is o.n
def Sett.bytes (s : Sett) : List UInt8 := s.mode.bytes ++ s.uid.bytes ++ s.gid.bytes ++ s.size.bytes ++ s.time.bytes
def Sett.empty (s : Sett) : Bool := !s.mode.is && (!s.uid.is && (!s.gid.is && (!s.size.is && !s.time.is)))
def Opt.over (o : Opt) (n : Int) : Int := if o.is then o.n else n
def Attr.applied (a : Attr) (s : Sett) (now : Int) : Attr :=
  { a with mode := s.mode.over a.mode, uid := s.uid.over a.uid, gid := s.gid.over a.gid, change := if s.empty then a.change else now, time := if s.time.is then s.time.n else if s.size.is then now else a.time }
def big : Int := 9223372036854775807
def Attr.ok (a : Attr) : Bool :=
  okN a.type 7 && decide (1 ≤ a.type) && okN a.mode 4095 && okN a.nlink 4294967295 && okN a.uid 4294967295 && okN a.gid 4294967295 && okN a.id 4294967295 && decide (0 ≤ a.size) && decide (0 ≤ a.gen) && decide (0 ≤ a.change) && decide (0 ≤ a.time)
theorem Opt.ok_pos {o : Opt} {m : Int} (h : o.ok m = true) : o.is = true → 0 ≤ o.n := fun hi => by
  unfold Opt.ok okN at h
  rw [if_pos hi] at h
  simp at h
  exact h.1
theorem Sett.ok_pos {s : Sett} (h : s.ok = true) : (s.mode.is = true → 0 ≤ s.mode.n) ∧ (s.uid.is = true → 0 ≤ s.uid.n) ∧ (s.gid.is = true → 0 ≤ s.gid.n) ∧ (s.size.is = true → 0 ≤ s.size.n) ∧ (s.time.is = true → 0 ≤ s.time.n) := by
  unfold Sett.ok at h
  simp only [Bool.and_eq_true] at h
  exact ⟨Opt.ok_pos h.1, Opt.ok_pos h.2.1, Opt.ok_pos h.2.2.1, Opt.ok_pos h.2.2.2.1, Opt.ok_pos h.2.2.2.2⟩
/-- the options, in order -/
def Sett.opt (s : Sett) : Nat → Opt
  | 0 => s.mode
  | 1 => s.uid
  | 2 => s.gid
  | 3 => s.size
  | _ => s.time
def Sett.upto (s : Sett) : Nat → List UInt8
  | 0 => []
  | k + 1 => s.upto k ++ (s.opt k).bytes
theorem Sett.upto_five (s : Sett) : s.upto 5 = s.bytes := by simp [Sett.upto, Sett.opt, Sett.bytes]
theorem Opt.bytes_len (o : Opt) : o.bytes.length ≤ 12 := by
  unfold Opt.bytes optB truth
  cases o.is <;> simp [num_len]
theorem Sett.upto_len (s : Sett) (k : Nat) : (s.upto k).length ≤ 12 * k := by
  induction k with
  | zero => simp [Sett.upto]
  | succ k ih => have := (s.opt k).bytes_len; simp only [Sett.upto, List.length_append]; omega
theorem Sett.empty_not {s : Sett} {k : Nat} (hk : k < 5) (h : (s.opt k).is = true) : s.empty = false := by
  match k, hk with
  | 0, _ | 1, _ | 2, _ | 3, _ | 4, _ => simp only [Sett.opt] at h; simp [Sett.empty, h]
theorem Sett.empty_end {s : Sett} (h : ∀ j, j < 5 → (s.opt j).is = false) : s.empty = true := by
  have h0 := h 0 (by omega)
  have h1 := h 1 (by omega)
  have h2 := h 2 (by omega)
  have h3 := h 3 (by omega)
  have h4 := h 4 (by omega)
  simp only [Sett.opt] at h0 h1 h2 h3 h4
  simp [Sett.empty, h0, h1, h2, h3, h4]
theorem Sett.opt_pos {s : Sett} (h : s.ok = true) {k : Nat} (hk : k < 5) : (s.opt k).is = true → 0 ≤ (s.opt k).n := by
  obtain ⟨h0, h1, h2, h3, h4⟩ := Sett.ok_pos h
  match k, hk with
  | 0, _ => exact h0
  | 1, _ => exact h1
  | 2, _ => exact h2
  | 3, _ => exact h3
  | 4, _ => exact h4
theorem Sett.opt_good {s : Sett} (h : s.good) {k : Nat} (hk : k < 5) : (s.opt k).good := by
  obtain ⟨h0, h1, h2, h3, h4⟩ := h
  match k, hk with
  | 0, _ => exact h0
  | 1, _ => exact h1
  | 2, _ => exact h2
  | 3, _ => exact h3
  | 4, _ => exact h4
end Go.Proofs.Ytmkhpgpnahligaa


/-
  Layer 5, walks: attributes are read. Conditions: a reader at a block of its own; texts are machine texts.
-/
namespace Go.Proofs.Ytmkhpgpnahligaa
open Go.RowKit
attribute [local go_sem ↓] Go.wp_at_zero Go.wp_at_succ
attribute [local go_sem] rowAt_ptr rowOf_drew rowOf_drewN rowOf_alloc_past rowOf_new
theorem ldAttrR {ρ : Operand → Value} {w : World} {dst : Option Tmp} {ty : TypeId} {pos : String} {after : Array Edge} {g : Option (Nat × Bool)} {x : Operand} (h : (rowAt w 10 (ρ x)).isSome = true) :
    (execOp ρ ⟨dst, .load 31 x, ty, pos, after, g⟩).run Try.prog w = .ok (.value (.agg ((rowAt w 10 (ρ x)).getD #[]))) w := ex_load 31 10 Try.underlying31 rfl (by kernel_rfl) h
attribute [local go_sem ↓] ldAttrR

def rOne (wide : Bool) (r : Rs) : Nat × Rs := if wide then rU64 r else rU32 r
def rMany : List Bool → Rs → List Nat × Rs
  | [], r => ([], r)
  | b :: bs, r => ((rOne b r).1 :: (rMany bs (rOne b r).2).1, (rMany bs (rOne b r).2).2)
theorem rMany_snoc (l : List Bool) (b : Bool) (r : Rs) : rMany (l ++ [b]) r = ((rMany l r).1 ++ [(rOne b (rMany l r).2).1], (rOne b (rMany l r).2).2) := by
  induction l generalizing r with
  | nil => rfl
  | cons c l ih => simp [rMany, ih]
theorem rMany_length (l : List Bool) (r : Rs) : (rMany l r).1.length = l.length := by
  induction l generalizing r with
  | nil => rfl
  | cons c l ih => simp [rMany, ih]
theorem rOne_len {b : Bool} {r : Rs} (h : r.s.length ≤ 9223372036854775807) : (rOne b r).2.s.length ≤ r.s.length := by
  cases b
  · exact rU32_len h
  · exact rU64_len h
theorem rMany_len (l : List Bool) (r : Rs) (h : r.s.length ≤ 9223372036854775807) : (rMany l r).2.s.length ≤ r.s.length := by
  induction l generalizing r with
  | nil => exact Nat.le_refl _
  | cons c l ih => exact Nat.le_trans (ih _ (Nat.le_trans (rOne_len h) h)) (rOne_len h)
def natsV (l : List Nat) : List Value := l.map fun n : Nat => Value.int .i64 (n : Int)
def attrW : List Bool := [false, false, false, false, false, true, false, true, true, true]
/-- the attributes' cells when k of them were read -/
def attrK (r : Rs) (k : Nat) : List Value := natsV (rMany (attrW.take k) r).1 ++ List.replicate (10 - k) (.int .i64 0)
def restK (r : Rs) (k : Nat) : Rs := (rMany (attrW.take k) r).2
theorem attrK_len (r : Rs) {k : Nat} (hk : k ≤ 10) : (attrK r k).length = 10 := by
  simp only [attrK, natsV, List.length_append, List.length_map, rMany_length, List.length_take, List.length_replicate, attrW, List.length_cons, List.length_nil]
  omega
theorem attrK_succ (r : Rs) {k : Nat} {b : Bool} (hk : k < 10) (hb : attrW[k]? = some b) : (attrK r k).set k (.int .i64 (rOne b (restK r k)).1) = attrK r (k + 1) ∧ restK r (k + 1) = (rOne b (restK r k)).2 := by
  have ht : attrW.take (k + 1) = attrW.take k ++ [b] := by
    rw [List.take_add_one, hb]; rfl
  have hl : (natsV (rMany (attrW.take k) r).1).length = k := by
    simp only [natsV, List.length_map, rMany_length, List.length_take, attrW, List.length_cons, List.length_nil]; omega
  unfold attrK restK
  rw [ht, rMany_snoc]
  refine ⟨?_, rfl⟩
  rw [List.set_append_right _ _ (by omega), hl, Nat.sub_self, show 10 - k = (10 - (k + 1)) + 1 by omega, List.replicate_succ, List.set_cons_zero]
  simp [natsV]
theorem attrK_cell {w : World} {b : Nat} {T : TypeId} {r : Rs} {k j : Nat} (h : Blk w b T (attrK r k)) (hk : k ≤ 10) (hj : j < 10) : ∃ v, w.cell? ⟨b, j, none⟩ = some v := by
  rw [h.cell]
  exact ⟨_, List.getElem?_eq_getElem (by rw [attrK_len r hk]; exact hj)⟩
def attrOf (l : List Nat) : Attr := ⟨l.getD 0 0, l.getD 1 0, l.getD 2 0, l.getD 3 0, l.getD 4 0, l.getD 5 0, l.getD 6 0, l.getD 7 0, l.getD 8 0, l.getD 9 0⟩
theorem attrOf_vals (l : List Nat) (h : l.length = 10) : (attrOf l).vals = natsV l := by
  match l, h with
  | [a, b, c, d, e, f, g, i, j, k], _ => rfl
def rAttr (r : Rs) : Attr × Rs := (attrOf (rMany attrW r).1, (rMany attrW r).2)
theorem attrK_ten (r : Rs) : attrK r 10 = (rAttr r).1.vals ∧ restK r 10 = (rAttr r).2 := by
  refine ⟨?_, rfl⟩
  unfold attrK rAttr
  rw [attrOf_vals _ (rMany_length _ _), show attrW.take 10 = attrW from rfl]
  simp
theorem rAttr_len {r : Rs} (h : r.s.length ≤ 9223372036854775807) : (rAttr r).2.s.length ≤ r.s.length := rMany_len _ _ h
theorem restK_len {r : Rs} (k : Nat) (h : r.s.length ≤ 9223372036854775807) : (restK r k).s.length ≤ 9223372036854775807 := Nat.le_trans (rMany_len _ _ h) h
def fieldPtrs (b : Nat) (l : List Nat) : List Value := l.map fun k => .pointer (some ⟨b, k, none⟩)
theorem fieldPtr_at {w : World} {h b : Nat} {T : TypeId} {l : List Nat} (hB : Blk w h T (fieldPtrs b l)) {k : Nat} (hk : k < l.length) : w.cell? ⟨h, k, none⟩ = some (.pointer (some ⟨b, l[k], none⟩)) := by
  rw [hB.cell]; simp [fieldPtrs, hk]

def zeroA : List Value := [.int .i64 0, .int .i64 0, .int .i64 0, .int .i64 0, .int .i64 0, .int .i64 0, .int .i64 0, .int .i64 0, .int .i64 0, .int .i64 0]
end Go.Proofs.Ytmkhpgpnahligaa
