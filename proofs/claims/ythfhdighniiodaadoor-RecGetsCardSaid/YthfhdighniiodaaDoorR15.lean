/-
  Layer 17, walks: the field of a letter is laid (written by wip/tools/genreclay.py). Conditions: a writer and a change at blocks of their own; the field may be.
-/
import Derived.Test.YthfhdighniiodaaDoorR13
import Derived.Test.YthfhdighniiodaaDoorR14
import Derived.Test.YthfhdighniiodaaDoorR06
import Derived.OpenShut
namespace Go.Proofs.YthfhdighniiodaaDoor
open Go.RowKit
attribute [local go_sem ↓] Go.wp_at_zero Go.wp_at_succ
attribute [local go_sem] rowAt_ptr rowOf_drew rowOf_drewN rowOf_alloc_past rowOf_new
attribute [local go_sem ↓] ldAttrR ldChange

attribute [local go_sem] Change.at0 Change.lat0 Change.at1 Change.lat1 Change.at2 Change.lat2 Change.at3 Change.lat3 Change.at4 Change.lat4 Change.at5 Change.lat5 Change.at6 Change.lat6 Change.at7 Change.lat7 Change.at8 Change.lat8 Change.at9 Change.lat9 Change.at10 Change.lat10 Change.at11 Change.lat11 Change.at12 Change.lat12 Change.at13 Change.lat13 Change.at14 Change.lat14 Change.at15 Change.lat15 Change.at16 Change.lat16 Change.at17 Change.lat17 Change.sub0_18 Change.lsub0_18 Change.sub6_10 Change.lsub6_10 Change.len Attr.at0 Attr.lat0 Attr.at1 Attr.lat1 Attr.at2 Attr.lat2 Attr.at3 Attr.lat3 Attr.at4 Attr.lat4 Attr.at5 Attr.lat5 Attr.at6 Attr.lat6 Attr.at7 Attr.lat7 Attr.at8 Attr.lat8 Attr.at9 Attr.lat9 Attr.sub0_10 Attr.lsub0_10 Attr.len

/-- the bytes of a letter's field -/
def rBytes (x : Change) (c : Nat) : List UInt8 :=
  if c = 101 then num x.epoch.toNat 4 else
  if c = 115 then num x.serial.toNat 8 else
  if c = 117 then opq x.up else
  if c = 110 then opq x.name else
  if c = 99 then opq x.child else
  if c = 97 then x.attr.bytes else
  if c = 98 then num x.no.toNat 4 else num x.slot.toNat 4
theorem rlay_e (g b : Nat) (sv : Value) (l : List UInt8) (x : Change) (w : World) (hW : Wr w g sv l) (hB : Blk w b 44 x.vals) (hm : rMay x 101 = true) (hl : l.length ≤ 800000000000) :
    Calls Tryd.prog 50 #[ptr g, .pointer (some ⟨b, 0, none⟩), .int .i32 101] w (Wrote g sv (l ++ rBytes x 101) (.tuple #[]) w) := by
  have hc := hB.cell
  have hm2 : 0 ≤ x.epoch ∧ x.epoch ≤ 4294967295 := by simp [rMay] at hm; omega
  obtain ⟨n, hn⟩ := Int.eq_ofNat_of_zero_le hm2.1
  have HN := Lib.hid hn
  have HS := Lib.hid (show rBytes x 101 = num n 4 by simp [rBytes, hn])
  have hb : (n : Int) ≤ 4294967295 := by omega
  clear hn hm hm2
  go_enter Tryd.func50, Tryd.ntmps50
  go_wp2_with fail
  rw [HN.out]
  refine (wU32_any g sv l n _ hW (by omega) (by omega)).mono ?_
  rintro e w1 ⟨rfl, hM⟩
  rw [← HS.out] at hM
  have HM := Lib.hid hM
  clear hM
  go_wp2
  go_end0
  exact ⟨rfl, HM.out⟩
theorem rlay_s (g b : Nat) (sv : Value) (l : List UInt8) (x : Change) (w : World) (hW : Wr w g sv l) (hB : Blk w b 44 x.vals) (hm : rMay x 115 = true) (hi : x.serial ≤ 9223372036854775807) (hl : l.length ≤ 800000000000) :
    Calls Tryd.prog 50 #[ptr g, .pointer (some ⟨b, 0, none⟩), .int .i32 115] w (Wrote g sv (l ++ rBytes x 115) (.tuple #[]) w) := by
  have hc := hB.cell
  have hm2 : 0 ≤ x.serial ∧ x.serial ≤ 9223372036854775807 := by simp [rMay] at hm; omega
  obtain ⟨n, hn⟩ := Int.eq_ofNat_of_zero_le hm2.1
  have HN := Lib.hid hn
  have HS := Lib.hid (show rBytes x 115 = num n 8 by simp [rBytes, hn])
  have hb : (n : Int) ≤ 9223372036854775807 := by omega
  clear hn hm hm2 hi
  go_enter Tryd.func50, Tryd.ntmps50
  go_wp2_with fail
  rw [HN.out]
  refine (wU64_any g sv l n _ hW (by omega) (by omega)).mono ?_
  rintro e w1 ⟨rfl, hM⟩
  rw [← HS.out] at hM
  have HM := Lib.hid hM
  clear hM
  go_wp2
  go_end0
  exact ⟨rfl, HM.out⟩
theorem rlay_u (g b : Nat) (sv : Value) (l : List UInt8) (x : Change) (w : World) (hW : Wr w g sv l) (hB : Blk w b 44 x.vals) (hm : rMay x 117 = true) (hl : l.length ≤ 800000000000) :
    Calls Tryd.prog 50 #[ptr g, .pointer (some ⟨b, 0, none⟩), .int .i32 117] w (Wrote g sv (l ++ rBytes x 117) (.tuple #[]) w) := by
  have hc := hB.cell
  have hm2 : x.up.length ≤ 64 := by simp [rMay] at hm; omega
  have HS := Lib.hid (show rBytes x 117 = opq x.up by simp [rBytes])
  go_enter Tryd.func50, Tryd.ntmps50
  go_wp2_with fail
  refine (wOpaque_any g sv l x.up _ hW (by omega) (by omega)).mono ?_
  rintro e w1 ⟨rfl, hM⟩
  rw [← HS.out] at hM
  have HM := Lib.hid hM
  clear hM
  go_wp2
  go_end0
  exact ⟨rfl, HM.out⟩
theorem rlay_n (g b : Nat) (sv : Value) (l : List UInt8) (x : Change) (w : World) (hW : Wr w g sv l) (hB : Blk w b 44 x.vals) (hm : rMay x 110 = true) (hl : l.length ≤ 800000000000) :
    Calls Tryd.prog 50 #[ptr g, .pointer (some ⟨b, 0, none⟩), .int .i32 110] w (Wrote g sv (l ++ rBytes x 110) (.tuple #[]) w) := by
  have hc := hB.cell
  have hm2 : x.name.length ≤ 255 := by simp [rMay] at hm; omega
  have HS := Lib.hid (show rBytes x 110 = opq x.name by simp [rBytes])
  go_enter Tryd.func50, Tryd.ntmps50
  go_wp2_with fail
  refine (wOpaque_any g sv l x.name _ hW (by omega) (by omega)).mono ?_
  rintro e w1 ⟨rfl, hM⟩
  rw [← HS.out] at hM
  have HM := Lib.hid hM
  clear hM
  go_wp2
  go_end0
  exact ⟨rfl, HM.out⟩
theorem rlay_c (g b : Nat) (sv : Value) (l : List UInt8) (x : Change) (w : World) (hW : Wr w g sv l) (hB : Blk w b 44 x.vals) (hm : rMay x 99 = true) (hl : l.length ≤ 800000000000) :
    Calls Tryd.prog 50 #[ptr g, .pointer (some ⟨b, 0, none⟩), .int .i32 99] w (Wrote g sv (l ++ rBytes x 99) (.tuple #[]) w) := by
  have hc := hB.cell
  have hm2 : x.child.length ≤ 64 := by simp [rMay] at hm; omega
  have HS := Lib.hid (show rBytes x 99 = opq x.child by simp [rBytes])
  go_enter Tryd.func50, Tryd.ntmps50
  go_wp2_with fail
  refine (wOpaque_any g sv l x.child _ hW (by omega) (by omega)).mono ?_
  rintro e w1 ⟨rfl, hM⟩
  rw [← HS.out] at hM
  have HM := Lib.hid hM
  clear hM
  go_wp2
  go_end0
  exact ⟨rfl, HM.out⟩
theorem rlay_a (g b : Nat) (sv : Value) (l : List UInt8) (x : Change) (w : World) (hW : Wr w g sv l) (hB : Blk w b 44 x.vals) (hm : rMay x 97 = true) (hg : x.attr.good) (hl : l.length ≤ 800000000000) :
    Calls Tryd.prog 50 #[ptr g, .pointer (some ⟨b, 0, none⟩), .int .i32 97] w (Wrote g sv (l ++ rBytes x 97) (.tuple #[]) w) := by
  have hr : rowOf w b 6 10 = some x.attr.vals.toArray := hB.row 6 10 (by simp [Change.len])
  have hm2 : x.attr.ok = true := by simpa [rMay] using hm
  have HS := Lib.hid (show rBytes x 97 = x.attr.bytes by simp [rBytes])
  go_enter Tryd.func50, Tryd.ntmps50
  go_wp2_with fail
  refine (putAttr_any g sv l x.attr _ hW hm2 hg (by omega)).mono ?_
  rintro e w1 ⟨rfl, hM⟩
  rw [← HS.out] at hM
  have HM := Lib.hid hM
  clear hM
  go_wp2
  go_end0
  exact ⟨rfl, HM.out⟩
theorem rlay_b (g b : Nat) (sv : Value) (l : List UInt8) (x : Change) (w : World) (hW : Wr w g sv l) (hB : Blk w b 44 x.vals) (hm : rMay x 98 = true) (hl : l.length ≤ 800000000000) :
    Calls Tryd.prog 50 #[ptr g, .pointer (some ⟨b, 0, none⟩), .int .i32 98] w (Wrote g sv (l ++ rBytes x 98) (.tuple #[]) w) := by
  have hc := hB.cell
  have hm2 : 0 ≤ x.no ∧ x.no ≤ 65535 := by simp [rMay] at hm; omega
  obtain ⟨n, hn⟩ := Int.eq_ofNat_of_zero_le hm2.1
  have HN := Lib.hid hn
  have HS := Lib.hid (show rBytes x 98 = num n 4 by simp [rBytes, hn])
  have hb : (n : Int) ≤ 65535 := by omega
  clear hn hm hm2
  go_enter Tryd.func50, Tryd.ntmps50
  go_wp2_with fail
  rw [HN.out]
  refine (wU32_any g sv l n _ hW (by omega) (by omega)).mono ?_
  rintro e w1 ⟨rfl, hM⟩
  rw [← HS.out] at hM
  have HM := Lib.hid hM
  clear hM
  go_wp2
  go_end0
  exact ⟨rfl, HM.out⟩
theorem rlay_t (g b : Nat) (sv : Value) (l : List UInt8) (x : Change) (w : World) (hW : Wr w g sv l) (hB : Blk w b 44 x.vals) (hm : rMay x 116 = true) (hl : l.length ≤ 800000000000) :
    Calls Tryd.prog 50 #[ptr g, .pointer (some ⟨b, 0, none⟩), .int .i32 116] w (Wrote g sv (l ++ rBytes x 116) (.tuple #[]) w) := by
  have hc := hB.cell
  have hm2 : 0 ≤ x.slot ∧ x.slot ≤ 65535 := by simp [rMay] at hm; omega
  obtain ⟨n, hn⟩ := Int.eq_ofNat_of_zero_le hm2.1
  have HN := Lib.hid hn
  have HS := Lib.hid (show rBytes x 116 = num n 4 by simp [rBytes, hn])
  have hb : (n : Int) ≤ 65535 := by omega
  clear hn hm hm2
  go_enter Tryd.func50, Tryd.ntmps50
  go_wp2_with fail
  rw [HN.out]
  refine (wU32_any g sv l n _ hW (by omega) (by omega)).mono ?_
  rintro e w1 ⟨rfl, hM⟩
  rw [← HS.out] at hM
  have HM := Lib.hid hM
  clear hM
  go_wp2
  go_end0
  exact ⟨rfl, HM.out⟩
theorem rlay_any (g b : Nat) (sv : Value) (l : List UInt8) (x : Change) (c : Nat) (w : World) (hc : rLetter c) (hW : Wr w g sv l) (hB : Blk w b 44 x.vals) (hm : rMay x c = true) (hi : x.serial ≤ 9223372036854775807) (hg : x.attr.good) (hl : l.length ≤ 800000000000) :
    Calls Tryd.prog 50 #[ptr g, .pointer (some ⟨b, 0, none⟩), .int .i32 c] w (Wrote g sv (l ++ rBytes x c) (.tuple #[]) w) := by
  rcases hc with rfl | rfl | rfl | rfl | rfl | rfl | rfl | rfl
  · exact rlay_e g b sv l x w hW hB hm hl
  · exact rlay_s g b sv l x w hW hB hm hi hl
  · exact rlay_u g b sv l x w hW hB hm hl
  · exact rlay_n g b sv l x w hW hB hm hl
  · exact rlay_c g b sv l x w hW hB hm hl
  · exact rlay_a g b sv l x w hW hB hm hg hl
  · exact rlay_b g b sv l x w hW hB hm hl
  · exact rlay_t g b sv l x w hW hB hm hl
end Go.Proofs.YthfhdighniiodaaDoor

/-
  Layer 1: a thing that is written or read, its cells, its bytes, and what is wrong with it. No condition.
-/
namespace Go.Proofs.YthfhdighniiodaaDoor
open Go.RowKit

structure Thing where
  kind : Int
  n : Int
  is : Bool
  s : List UInt8
def Thing.vals (x : Thing) : List Value := [.int .i64 x.kind, .int .i64 x.n, .bool x.is, .string (bs x.s)]
theorem Thing.len (x : Thing) : x.vals.length = 4 := rfl
theorem Thing.one (x : Thing) : ∀ v ∈ x.vals, v.oneCell' = true := by
  intro v hv
  unfold Thing.vals at hv
  simp only [List.mem_cons, List.not_mem_nil, or_false] at hv
  rcases hv with rfl | rfl | rfl | rfl <;> rfl
def Thing.good (x : Thing) : Prop := (Lit.int .i64 x.kind).wf = true ∧ (Lit.int .i64 x.n).wf = true ∧ x.s.length ≤ maxLen
instance : Inhabited Thing := ⟨⟨0, 0, false, []⟩⟩

def Thing.err (t : Thing) : Int :=
  if t.kind = 1 then (if t.n < 0 ∨ 4294967295 < t.n then 3 else 0)
  else if t.kind = 2 then (if t.n < 0 then 3 else 0)
  else if t.kind = 6 then (if t.is = true ∧ t.n < 0 then 3 else 0)
  else 0
def Thing.bytes (t : Thing) : List UInt8 :=
  if t.kind = 1 then (if t.n < 0 ∨ 4294967295 < t.n then [] else num t.n.toNat 4)
  else if t.kind = 2 then (if t.n < 0 then [] else num t.n.toNat 8)
  else if t.kind = 3 then truth t.is
  else if t.kind = 4 then filled t.s
  else if t.kind = 5 then opq t.s
  else if t.kind = 6 then (if t.is = true ∧ t.n < 0 then [] else optB t.is t.n)
  else []
theorem Thing.bytes_len (t : Thing) : t.bytes.length ≤ t.s.length + 16 := by
  have hp := padn_lt t.s.length
  unfold Thing.bytes truth optB truth opq
  repeat' split
  all_goals simp [num_len, filled_len]
  all_goals omega

/-- a new writer -/
theorem Wr.fresh (w : World) : Wr (w.alloc (.cells #[.slice none 0 0] 87)) w.heap.size (.slice none 0 0) [] := ⟨Blk.new _ _ _, World.ownsRow_nil _ _ _ _⟩
theorem Moved.below {g : Nat} {sv : Value} {l : List UInt8} {B : Nat} {w w' : World} (h : Moved g sv l w w') (hg : B ≤ g) (hs : ∀ k, sv.ownBlock = some k → B ≤ k) (hB : B ≤ w.heap.size) : Below B w w' := by
  obtain ⟨_, _, _, ht⟩ := h
  refine ht.below (fun k _ hf => ?_) hB
  rcases hf with rfl | hf
  · exact hg
  · exact hs k hf
end Go.Proofs.YthfhdighniiodaaDoor
