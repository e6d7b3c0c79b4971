/-
  Layer 8 in plain words: what bytes are results. No condition.
-/
import Derived.Test.YtapcjojlkeaadaaGreatDoorP10
import Derived.Test.YtapcjojlkeaadaaGreatDoorP14
import Derived.Test.YtapcjojlkeaadaaGreatDoorP15
import Derived.Test.YtapcjojlkeaadaaGreatDoorP07
import Derived.Test.YtapcjojlkeaadaaGreatDoorProg
import Derived.Test.YtapcjojlkeaadaaGreatDoorP02
namespace Go.Proofs.YtapcjojlkeaadaaGreatDoor

/-- results as data: the fields, the entries, the numbers -/
structure RepD where
  f : Flds
  es : List Entry
  us : List Int
/-- k numbers, one behind the other -/
def numsK (r : Rs) : Nat → List Int × Rs
  | 0 => ([], r)
  | k + 1 => ((numsK r k).1 ++ [((rU64 (numsK r k).2).1 : Int)], (rU64 (numsK r k).2).2)
/-- what an entry is read as, ahead of its attributes -/
def oneA (r : Rs) : Entry × Rs :=
  ({ gen := (rU64 r).1, name := (rOpaque 255 (rU64 r).2).1, cookie := (rU64 (rOpaque 255 (rU64 r).2).2).1, attr := postZ8, fh := [] }, (rU64 (rOpaque 255 (rU64 r).2).2).2)
/-- an entry, with all that it has, or not -/
def oneE (whole : Bool) (r : Rs) : Entry × Rs :=
  if whole then ({ (oneA r).1 with attr := (gotR Post.ok postZ (rPost (oneA r).2)).1, fh := (rOpaque 64 (rPost (oneA r).2).2).1 }, (rOpaque 64 (rPost (oneA r).2).2).2) else oneA r
def oneOk (whole : Bool) (r : Rs) : Bool := (!whole || (gotR Post.ok postZ (rPost (oneA r).2)).2 == 0) && ((oneE whole r).2.e == 0)
/-- k entries, one behind the other -/
def entsK (whole : Bool) (r : Rs) : Nat → List Entry × Rs
  | 0 => ([], r)
  | k + 1 => ((entsK whole r k).1 ++ [(oneE whole (entsK whole r k).2).1], (oneE whole (entsK whole r k).2).2)
/-- the field of a letter is taken -/
def pTk (c : Nat) (d : RepD) (r : Rs) : RepD × Rs :=
  if c = 104 then ({ d with f := { d.f with fh := (rOpaque 64 r).1 } }, (rOpaque 64 r).2)
  else if c = 97 then ({ d with f := { d.f with obj := (gotR Post.ok postZ (rPost r)).1 } }, (rPost r).2)
  else if c = 68 then ({ d with f := { d.f with dir := (gotR Post.ok postZ (rPost r)).1 } }, (rPost r).2)
  else if c = 119 then ({ d with f := { d.f with wcc := (gotR Wcc.ok wccZ (rWcc r)).1 } }, (rWcc r).2)
  else if c = 87 then ({ d with f := { d.f with wcc2 := (gotR Wcc.ok wccZ (rWcc r)).1 } }, (rWcc r).2)
  else if c = 120 then ({ d with f := { d.f with access := (rU32 r).1 } }, (rU32 r).2)
  else if c = 99 then ({ d with f := { d.f with count := (rU32 r).1 } }, (rU32 r).2)
  else if c = 115 then ({ d with f := { d.f with stable := (rU32 r).1 } }, (rU32 r).2)
  else if c = 118 then ({ d with f := { d.f with verf := (rU64 r).1 } }, (rU64 r).2)
  else if c = 101 then ({ d with f := { d.f with eof := (rBool r).1 } }, (rBool r).2)
  else if c = 100 then ({ d with f := { d.f with data := (rOpaque 256 r).1 } }, (rOpaque 256 r).2)
  else if c = 110 then ({ d with us := (numsK (rU32 r).2 (rU32 r).1).1 }, (numsK (rU32 r).2 (rU32 r).1).2)
  else if c = 108 then ({ d with es := (entsK false (rU32 r).2 (rU32 r).1).1 }, (entsK false (rU32 r).2 (rU32 r).1).2)
  else if c = 112 then ({ d with es := (entsK true (rU32 r).2 (rU32 r).1).1 }, (entsK true (rU32 r).2 (rU32 r).1).2)
  else (d, r)
/-- may it be -/
def pTkOk (c : Nat) (r : Rs) : Bool :=
  if c = 97 ∨ c = 68 then (gotR Post.ok postZ (rPost r)).2 == 0
  else if c = 119 ∨ c = 87 then (gotR Wcc.ok wccZ (rWcc r)).2 == 0
  else if c = 110 then decide ((rU32 r).1 ≤ 16) && ((numsK (rU32 r).2 (rU32 r).1).2.e == 0)
  else if c = 108 then decide ((rU32 r).1 ≤ 64) && (((rU32 r).2.e == 0) && (List.range (rU32 r).1).all fun i => oneOk false (entsK false (rU32 r).2 i).2)
  else if c = 112 then decide ((rU32 r).1 ≤ 64) && (((rU32 r).2.e == 0) && (List.range (rU32 r).1).all fun i => oneOk true (entsK true (rU32 r).2 i).2)
  else (pTk c ⟨fldsZ, [], []⟩ r).2.e == 0
/-- the first k letters' fields are taken -/
def pSt (l : List UInt8) (d : RepD) (r : Rs) (k : Nat) : RepD × Rs := (l.take k).foldl (fun x c => pTk c.toNat x.1 x.2) (d, r)
theorem pSt_succ (l : List UInt8) (d : RepD) (r : Rs) (k : Nat) (hk : k < l.length) : pSt l d r (k + 1) = pTk l[k].toNat (pSt l d r k).1 (pSt l d r k).2 := by
  unfold pSt
  rw [List.take_add_one, List.getElem?_eq_getElem hk, List.foldl_append]
  rfl
def pStOk (l : List UInt8) (d : RepD) (r : Rs) (k : Nat) : Bool := pTkOk (l.getD k 0).toNat (pSt l d r k).2
/-- results of a status alone -/
def repS (n : Nat) : RepD := ⟨{ fldsZ with status := n }, [], []⟩
end Go.Proofs.YtapcjojlkeaadaaGreatDoor

/-
  Layer 1, walks: what strings.Trim leaves of a text whose noughts are cut off; a text, and what fills it up, are taken. Conditions: sizes.
-/
namespace Go.Proofs.YtapcjojlkeaadaaGreatDoor
open Go.RowKit
attribute [local go_sem ↓] Go.wp_at_zero Go.wp_at_succ
attribute [local go_sem] rowAt_ptr rowOf_drew rowOf_drewN rowOf_alloc_past rowOf_new
attribute [local go_sem] bs_get

theorem last_at {l : List UInt8} {k : Nat} (hk : k < l.length) : (l.take (k + 1)).getLast? = some l[k] := by
  rw [List.take_succ_eq_append_getElem hk, List.getLast?_append]; simp
theorem drop_zeros {l : List UInt8} {k : Nat} (hk : k < l.length) (h0 : l[k] = 0) (h : ∀ x ∈ l.drop (k + 1), x = 0) : ∀ x ∈ l.drop k, x = 0 := by
  intro x hx
  rw [List.drop_eq_getElem_cons hk] at hx
  rcases List.mem_cons.1 hx with rfl | hx
  · exact h0
  · exact h x hx
def TrimR (l : List UInt8) (w : World) (e : Ending) (w' : World) : Prop := ∃ m z, e = .returned (.string (bs m)) ∧ l = m ++ z ∧ (∀ x ∈ z, x = 0) ∧ (∀ x, m.getLast? = some x → x ≠ 0) ∧ w = w'
def TrimL (l : List UInt8) (w : World) (e : Ending) (w' : World) : Prop := ∃ m z, e = .returned (.string (bs m)) ∧ l = z ++ m ∧ (∀ x ∈ z, x = 0) ∧ (∀ x, m.head? = some x → x ≠ 0) ∧ w = w'
def strLen : Value → Nat
  | .string b => b.size
  | _ => 0
theorem strLen_bs (l : List UInt8) : strLen (.string (bs l)) = l.length := rfl
set_option maxRecDepth 20000 in
set_option maxHeartbeats 800000 in
theorem trimRight_any (l : List UInt8) (w : World) (hl : l.length ≤ 9223372036854775807) :
    Calls Tryz.prog 106 #[.string (bs l), .int .u8 0] w (TrimR l w) := by
  go_enter Tryz.func106, Tryz.ntmps106
  go_wp2
  go_loop [0] (fun s => ∃ k : Nat, k ≤ l.length ∧ s = .string (bs (l.take k)) ∧ ∀ x ∈ l.drop k, x = 0) (fun s => strLen s)
  case atStart => exact ⟨l.length, Nat.le_refl _, by rw [List.take_length], by simp⟩
  case round =>
    obtain ⟨k, hk, rfl, hz⟩ := hrel
    have hsz : (bs (l.take k)).size = k := by rw [bs_size, List.length_take]; omega
    have HZ := Lib.hid hz
    clear hz
    match k, hk, hsz with
    | 0, hk, hsz =>
      go_wp2
      go_ret
      exact ⟨[], l, rfl, rfl, by simpa using HZ.out, by simp, rfl⟩
    | k + 1, hk, hsz =>
      have hlt : k < l.length := by omega
      have hb := l[k].toNat_lt
      have hlen : (l.take (k + 1)).length = k + 1 := by rw [List.length_take]; omega
      have hlen2 : (l.take k).length = k := by rw [List.length_take]; omega
      have htt : (l.take (k + 1)).take k = l.take k := by rw [List.take_take]; congr 1; omega
      have hk1 : (0 : Int) < ((k + 1 : Nat) : Int) := by omega
      have hidx : ((k + 1 : Nat) : Int) - 1 = (k : Int) := by omega
      by_cases h0 : l[k] = 0
      · have h1 : ((l[k].toNat : Int) == 0) = true := by rw [h0]; rfl
        have HS := Lib.hid (drop_zeros hlt h0 HZ.out)
        clear h0 HZ
        go_wp2
        go_round
        case rel => exact ⟨k, by omega, by rw [bs_take, htt], HS.out⟩
        case measure => rw [bs_take, htt, strLen_bs, strLen_bs, hlen, hlen2]; omega
      · have h1 : ((l[k].toNat : Int) == 0) = false := by
          rw [beq_eq_false_iff_ne]; intro e; apply h0; apply UInt8.toNat_inj.1; simpa using e
        have HS := Lib.hid (show ∀ x, (l.take (k + 1)).getLast? = some x → x ≠ 0 from fun x hx => by
          rw [last_at hlt] at hx; injection hx with hx; subst hx; exact h0)
        clear h0
        go_wp2
        go_ret
        exact ⟨l.take (k + 1), l.drop (k + 1), rfl, (List.take_append_drop _ _).symm, HZ.out, HS.out, rfl⟩

theorem take_zeros {l : List UInt8} {k : Nat} (hk : k < l.length) (h0 : l[k] = 0) (h : ∀ x ∈ l.take k, x = 0) : ∀ x ∈ l.take (k + 1), x = 0 := by
  intro x hx
  rw [List.take_succ_eq_append_getElem hk] at hx
  rcases List.mem_append.1 hx with hx | hx
  · exact h x hx
  · simp at hx; subst hx; exact h0
set_option maxRecDepth 20000 in
set_option maxHeartbeats 800000 in
theorem trimLeft_any (l : List UInt8) (w : World) (hl : l.length ≤ 9223372036854775807) :
    Calls Tryz.prog 105 #[.string (bs l), .int .u8 0] w (TrimL l w) := by
  go_enter Tryz.func105, Tryz.ntmps105
  go_wp2
  go_loop [0] (fun s => ∃ k : Nat, k ≤ l.length ∧ s = .string (bs (l.drop k)) ∧ ∀ x ∈ l.take k, x = 0) (fun s => strLen s)
  case atStart => exact ⟨0, Nat.zero_le _, rfl, by simp⟩
  case round =>
    obtain ⟨k, hk, rfl, hz⟩ := hrel
    have HZ := Lib.hid hz
    clear hz
    by_cases hlt : k < l.length
    · have hb := l[k].toNat_lt
      have hdr : l.drop k = l[k] :: l.drop (k + 1) := List.drop_eq_getElem_cons hlt
      have hlen2 : (l.drop (k + 1)).length = l.length - (k + 1) := List.length_drop
      have hlen : (l[k] :: l.drop (k + 1)).length = l.length - k := by rw [List.length_cons, hlen2]; omega
      have hsz : (bs (l[k] :: l.drop (k + 1))).size = l.length - k := hlen
      have hpos : (0 : Int) < ((l.length - k : Nat) : Int) := by omega
      have hbig : ((l.length - k : Nat) : Int) ≤ 9223372036854775807 := by omega
      have HD := Lib.hid hdr
      rw [hdr]
      by_cases h0 : l[k] = 0
      · have h1 : ((l[k].toNat : Int) == 0) = true := by rw [h0]; rfl
        have HS := Lib.hid (take_zeros hlt h0 HZ.out)
        clear h0 HZ hdr
        have hcut : (bs (l.drop k)).extract 1 (l.length - k) = bs (l.drop (k + 1)) := by
          have := bs_drop (l.drop k) 1
          rw [List.length_drop, List.drop_drop] at this
          exact this
        have HC := Lib.hid hcut
        clear hcut
        go_wp2
        go_round
        case rel => exact ⟨k + 1, by omega, by rw [HC.out], HS.out⟩
        case measure => rw [HC.out, strLen_bs, strLen_bs, hlen, hlen2]; omega
      · have h1 : ((l[k].toNat : Int) == 0) = false := by
          rw [beq_eq_false_iff_ne]; intro e; apply h0; apply UInt8.toNat_inj.1; simpa using e
        have HS := Lib.hid (show ∀ x, (l.drop k).head? = some x → x ≠ 0 from fun x hx => by
          rw [hdr] at hx; simp only [List.head?_cons, Option.some.injEq] at hx; exact fun e => h0 (hx.trans e))
        clear h0 hdr
        go_wp2
        go_ret
        exact ⟨l.drop k, l.take k, rfl, (List.take_append_drop _ _).symm, HZ.out, HS.out, rfl⟩
    · have hdr : l.drop k = [] := List.drop_of_length_le (by omega)
      have htk : l.take k = l := List.take_of_length_le (by omega)
      rw [htk] at HZ
      rw [hdr]
      clear htk hdr hlt
      go_wp2
      go_ret
      exact ⟨[], l, rfl, by simp, HZ.out, by simp, rfl⟩

def Trimmed (l : List UInt8) (w : World) (e : Ending) (w' : World) : Prop := ∃ m, e = .returned (.string (bs m)) ∧ (m = [] ↔ l.all (· == 0) = true) ∧ Below w.heap.size w w'
theorem trimmed_iff {l m m1 z1 z2 : List UInt8} (h1 : l = m1 ++ z1) (h2 : m1 = z2 ++ m) (hz1 : ∀ x ∈ z1, x = 0) (hz2 : ∀ x ∈ z2, x = 0) (hm : ∀ x, m.head? = some x → x ≠ 0) : m = [] ↔ l.all (· == 0) = true := by
  subst h1 h2
  rw [List.all_eq_true]
  constructor
  · rintro rfl
    intro x hx
    simp only [List.append_nil, List.mem_append] at hx
    rcases hx with hx | hx
    · simpa using hz2 x hx
    · simpa using hz1 x hx
  · intro h
    cases m with
    | nil => rfl
    | cons a m =>
      have := h a (by simp)
      exact absurd (by simpa using this) (hm a rfl)
set_option maxRecDepth 20000 in
set_option maxHeartbeats 800000 in
theorem trim_any (l : List UInt8) (w : World) (hl : l.length ≤ 9223372036854775807) :
    Calls Tryz.prog 95 #[.string (bs l), .string (bs [0])] w (Trimmed l w) := by
  cases l with
  | nil =>
    go_enter Tryz.func95, Tryz.ntmps95
    go_wp2
    go_ret
    exact ⟨[], rfl, by simp, Below.refl _ _⟩
  | cons a t =>
    have hlen : (a :: t).length = t.length + 1 := rfl
    go_enter Tryz.func95, Tryz.ntmps95
    go_wp2_with fail
    have HL := Lib.hid hl
    generalize a :: t = l at *
    go_region_held3 (fun W => Stb w W) (first | exact Stb.start | assumption) (first
      | (go_at_call 106; refine (trimRight_any l _ HL.out).mono ?_; rintro e w' ⟨m1, z1, rfl, h1, hz1, hm1, rfl⟩; have H1 := Lib.hid h1; clear h1)
      | (go_at_call 105; refine (trimLeft_any m1 _ (by have h := HL.out; rw [H1.out, List.length_append] at h; omega)).mono ?_; rintro e w' ⟨m, z2, rfl, h2, hz2, hm, rfl⟩; have H2 := Lib.hid h2; clear h2))
    all_goals
      have HI := Lib.hid (trimmed_iff H1.out H2.out hz1 hz2 hm)
      clear hz1 hz2 hm hm1 H1 H2
      go_wp2
      go_ret
      exact ⟨m, rfl, HI.out, (Below.refl _ _).drew⟩
end Go.Proofs.YtapcjojlkeaadaaGreatDoor


/-
  Layer 1, walks: the reference's bytes of numbers and texts; what fills up. Conditions: numbers from 0 on; texts below 2^40 bytes.
-/
namespace Go.Proofs.YtapcjojlkeaadaaGreatDoor
open Go.RowKit
attribute [local go_sem ↓] Go.wp_at_zero Go.wp_at_succ

set_option maxHeartbeats 400000 in
theorem pad_any (n : Int) (w : World) (hn : n ≤ 9223372036854775807) :
    Calls Tryz.prog 93 #[.int .i64 n] w fun e w' => e = .returned (.int .i64 (padn n.toNat)) ∧ w = w' := by
  by_cases h : n < 1
  · have hr := Lib.hid (show padn n.toNat = 0 by rw [show n.toNat = 0 by omega]; rfl)
    go_enter Tryz.func93, Tryz.ntmps93
    go_wp2
    go_ret
    exact ⟨ret_int (by rw [hr.out]; rfl), rfl⟩
  · have hr := Lib.hid (show (padn n.toNat : Int) = (4 - n % 4) % 4 by unfold padn; omega)
    go_enter Tryz.func93, Tryz.ntmps93
    go_wp2
    go_ret
    exact ⟨ret_int (by have := hr.out; omega), rfl⟩

theorem one_string (x : Int) (W : World) : (convert 69 9 (.slice (some ⟨W.heap.size, 0, none⟩) 1 1)).run Tryz.prog (W.alloc (.cells #[.int .u8 x] 5)) = .ok (.string (bs [UInt8.ofNat x.toNat])) (W.alloc (.cells #[.int .u8 x] 5)) :=
  run_one_string Tryz.underlying69 Tryz.underlying5 Tryz.underlying9 x W
attribute [local go_sem] one_string

set_option maxRecDepth 20000 in
set_option maxHeartbeats 800000 in
theorem refNum_any (n k : Nat) (w : World) (hn : (n : Int) ≤ 9223372036854775807) (hk : k ≤ 8) :
    Calls Tryz.prog 24 #[.int .i64 n, .int .i64 k] w fun e w' => e = .returned (.string (bs (num n k))) ∧ Below w.heap.size w w' := by
  go_enter Tryz.func24, Tryz.ntmps24
  go_wp2
  go_loopg [0, 5, 6] k (fun g m s i wr => ∃ (j q : Nat) (l : List UInt8), i = .int .i64 j ∧ j + g = k ∧ m = .int .i64 q ∧ (q : Int) ≤ 9223372036854775807 ∧ s = .string (bs l) ∧ l.length = j ∧ num q g ++ l = num n k ∧ Below w.heap.size w wr)
  case atStart => exact ⟨0, n, [], rfl, by omega, rfl, hn, rfl, rfl, by simp, Below.refl _ _⟩
  case round =>
    obtain ⟨j, q, l, rfl, hj, rfl, hq, rfl, hl, hnum, hB⟩ := hrel
    have HN := Lib.hid hnum
    clear hnum
    by_cases hlt : j < k
    · have HS := Lib.hid (show num (q / 256) (gk - 1) ++ (UInt8.ofNat (q % 256) :: l) = num n k by
        rw [ofNat_mod, ← HN.out, show gk = gk - 1 + 1 by omega, num]; simp)
      go_wp2
      go_roundg (gk - 1)
      case measure => omega
      case rel => exact ⟨j + 1, q / 256, UInt8.ofNat (q % 256) :: l, by go_num, by omega, by go_num, by omega, by rw [bs_append]; rfl, by simp [hl], HS.out, hB.alloc hB.size _⟩
    · have HS := Lib.hid (show l = num n k by rw [← HN.out, show gk = 0 by omega]; rfl)
      go_wp2
      go_ret
      exact ⟨by show Ending.returned (.string (bs l)) = _; rw [HS.out], hB⟩

theorem ret_string {a b : List UInt8} (h : a = b) : Ending.returned (.string (bs a)) = .returned (.string (bs b)) := by rw [h]

theorem refTruth_any (b : Bool) (w : World) : Calls Tryz.prog 28 #[.bool b] w fun e w' => e = .returned (.string (bs (truth b))) ∧ Below w.heap.size w w' := by
  cases b
  · go_enter Tryz.func28, Tryz.ntmps28
    go_wp2_with (go_at_call 24; refine (refNum_any 0 4 _ (by omega) (by omega)).mono ?_; rintro e w' ⟨rfl, hb⟩)
    go_ret
    exact ⟨rfl, hb⟩
  · go_enter Tryz.func28, Tryz.ntmps28
    go_wp2_with (go_at_call 24; refine (refNum_any 1 4 _ (by omega) (by omega)).mono ?_; rintro e w' ⟨rfl, hb⟩)
    go_ret
    exact ⟨rfl, hb⟩

theorem filled_step {l m : List UInt8} (h : filled l = filled m) (hn : m.length % 4 ≠ 0) : filled l = filled (m ++ [0]) := by
  rw [h]
  unfold filled
  have : padn m.length = padn (m ++ [0]).length + 1 := by simp [padn]; omega
  rw [this, List.append_assoc]
  rfl
theorem filled_end {m : List UInt8} (hn : m.length % 4 = 0) : filled m = m := by
  unfold filled
  rw [show padn m.length = 0 by unfold padn; omega]
  simp

set_option maxRecDepth 20000 in
set_option maxHeartbeats 800000 in
theorem refFilled_any (l : List UInt8) (w : World) (hl : l.length ≤ 1000000000) :
    Calls Tryz.prog 49 #[.string (bs l)] w fun e w' => e = .returned (.string (bs (filled l))) ∧ Below w.heap.size w w' := by
  go_enter Tryz.func49, Tryz.ntmps49
  go_wp2
  go_loopg [0] 4 (fun g s wr => ∃ m : List UInt8, s = .string (bs m) ∧ filled l = filled m ∧ (m.length % 4 ≠ 0 → 4 - m.length % 4 ≤ g) ∧ m.length ≤ 1000000010 - g ∧ g ≤ 4 ∧ Below w.heap.size w wr)
  case atStart => exact ⟨l, rfl, rfl, fun _ => by omega, by omega, by omega, Below.refl _ _⟩
  case round =>
    obtain ⟨m, rfl, hf, hg, hm, hg4, hB⟩ := hrel
    have hsz := bs_size m
    by_cases hn : m.length % 4 = 0
    · have HS := Lib.hid (show m = filled l by rw [hf, filled_end hn])
      have h1 : ((m.length : Int) % 4 != 0) = false := by simp; omega
      clear hf hg hn
      go_wp2
      go_ret
      exact ⟨ret_string HS.out, hB⟩
    · have HS := Lib.hid (filled_step hf hn)
      have h1 : ((m.length : Int) % 4 != 0) = true := by simp; omega
      have hg' := hg hn
      have hlen : (m ++ [(0 : UInt8)]).length = m.length + 1 := by simp
      clear hf hg
      go_wp2
      go_roundg (gk - 1)
      case measure => omega
      case rel => exact ⟨m ++ [0], by rw [← bs_append], HS.out, fun h => by omega, by omega, by omega, hB⟩

set_option maxHeartbeats 800000 in
theorem refText_any (l : List UInt8) (w : World) (hl : l.length ≤ 1000000000) :
    Calls Tryz.prog 25 #[.string (bs l)] w fun e w' => e = .returned (.string (bs (opq l))) ∧ Below w.heap.size w w' := by
  have hsz := bs_size l
  have hf := filled_len l
  have hp := padn_lt l.length
  have hn := num_len l.length 4
  go_enter Tryz.func25, Tryz.ntmps25
  go_wp2_with fail
  refine (refNum_any l.length 4 _ (by omega) (by omega)).mono ?_
  rintro e w1 ⟨rfl, hb1⟩
  go_wp2_with fail
  refine (refFilled_any l _ hl).mono ?_
  rintro e w2 ⟨rfl, hb2⟩
  go_wp2
  go_ret
  exact ⟨by show Ending.returned (.string (bs _ ++ bs _)) = _; rw [bs_append]; rfl, below_then hb1 hb2⟩
end Go.Proofs.YtapcjojlkeaadaaGreatDoor
