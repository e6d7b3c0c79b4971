/-
  Layer 20, walks: the document's Same and Large. Conditions: machine lists.
-/
import Derived.Test.YtmkhpgpnahligaaP12
import Derived.BigGuardPart
import Derived.Test.YtmkhpgpnahligaaP02
import Derived.Shelf.Strings.Builder2
import Derived.Shelf.Strings.Repeat
import Derived.Ground.Names2Prog
import Derived.Test.YtmkhpgpnahligaaProg
import Derived.Deep.Light
namespace Go.Proofs.Ytmkhpgpnahligaa
open Go.RowKit
attribute [local go_sem ↓] Go.wp_at_zero Go.wp_at_succ
attribute [local go_sem] rowAt_ptr rowOf_drew rowOf_drewN rowOf_alloc_past rowOf_new
attribute [local go_sem ↓] ldEntry neqEntry

attribute [local go_sem] Entry.at0 Entry.lat0 Entry.at1 Entry.lat1 Entry.at2 Entry.lat2 Entry.at3 Entry.lat3 Entry.at4 Entry.lat4 Entry.at5 Entry.lat5 Entry.at6 Entry.lat6 Entry.at7 Entry.lat7 Entry.at8 Entry.lat8 Entry.at9 Entry.lat9 Entry.at10 Entry.lat10 Entry.at11 Entry.lat11 Entry.at12 Entry.lat12 Entry.at13 Entry.lat13 Entry.at14 Entry.lat14 Entry.sub0_15 Entry.lsub0_15 Entry.sub3_11 Entry.lsub3_11 Entry.sub4_10 Entry.lsub4_10 Entry.len guardEntry

set_option maxRecDepth 20000 in
set_option maxHeartbeats 3200000 in
theorem same20_any (A B : Option Addr) (c d : Nat) (l m : List Entry) (w : World) (hl : l.length ≤ 9223372036854775807) (hm : m.length ≤ 9223372036854775807) (hA : At w 15 A (l.map Entry.vals)) (hB : At w 15 B (m.map Entry.vals)) :
    Calls Try.prog 11 #[.slice A l.length c, .slice B m.length d] w fun e w' => e = .returned (.bool (decide (l = m))) ∧ Below w.heap.size w w' := by
  go_enter Try.func11, Try.ntmps11
  by_cases h1 : l.length = m.length
  case neg =>
    have hne : ((l.length : Int) != (m.length : Int)) = true := by simp; omega
    have HV := Lib.hid (show false = decide (l = m) by rw [decide_eq_false (fun e => h1 (by rw [e]))])
    clear h1
    go_wp2
    go_ret
    exact ⟨ret_bool HV.out, Below.refl _ _⟩
  have hne : ((l.length : Int) != (m.length : Int)) = false := by simp [h1]
  have H1 := Lib.hid h1
  clear h1
  go_wp2
  go_loopw [5] (fun i wr => ∃ k : Nat, k ≤ l.length ∧ i = .int .i64 k ∧ l.take k = m.take k ∧ Below w.heap.size w wr) (fun i _ => l.length - (intOf i).toNat)
  case atStart => exact ⟨0, Nat.zero_le _, rfl, rfl, Below.refl _ _⟩
  case round =>
    obtain ⟨k, hk, rfl, ht, hb⟩ := hrel
    by_cases hlt : k < l.length
    · have hltm : k < m.length := by have := H1.out; omega
      obtain ⟨b1, o1, rfl, hb1, r1, -⟩ := rowCell8 Entry.len (by omega) (hA.below hb) hlt
      obtain ⟨b2, o2, rfl, hb2, r2, -⟩ := rowCell8 Entry.len (by omega) (hB.below hb) hltm
      have hk0 : (0 : Int) ≤ (k : Int) := Int.natCast_nonneg _
      have hk1 : (k : Int) < (l.length : Int) := by omega
      have hk2 : (k : Int) < (m.length : Int) := by omega
      have HT := Lib.hid (fun h => takeSame8 ht hlt hltm h)
      have HN := Lib.hid (show l[k] ≠ m[k] → l ≠ m from fun h e => h (by subst e; rfl))
      have HB := Lib.hid hb
      clear ht hb hne
      by_cases he : l[k] = m[k]
      · have hd : decide (l[k] ≠ m[k]) = false := decide_eq_false (by simpa using he)
        have HS := Lib.hid (HT.out he)
        clear he HT HN
        go_wp2_with fail
        go_region_held3 (fun W => Stb wr W) (first | exact Stb.start | assumption) (first | fail)
        go_wp2
        go_roundw
        case rel => exact ⟨k + 1, by omega, by go_num, HS.out, by first | exact HB.out.drew | exact bdN HB.out _⟩
        case measure => simp [intOf]; omega
      · have hd : decide (l[k] ≠ m[k]) = true := decide_eq_true he
        have HV := Lib.hid (show false = decide (l = m) by rw [decide_eq_false (HN.out he)])
        clear he HT HN
        go_wp2_with fail
        go_region_held3 (fun W => Stb wr W) (first | exact Stb.start | assumption) (first | fail)
        go_wp2
        go_ret
        exact ⟨ret_bool HV.out, by first | exact HB.out.drew | exact bdN HB.out _⟩
    · have hlm : l = m := by
        have h3 : k = l.length := by omega
        rw [h3, List.take_length, H1.out, List.take_length] at ht
        exact ht
      have hk1 : ¬ (k : Int) < (l.length : Int) := by omega
      have HV := Lib.hid (show true = decide (l = m) by rw [decide_eq_true hlm])
      clear ht hlm hne
      go_wp2
      go_ret
      exact ⟨ret_bool HV.out, hb⟩

/-- what Large tells: where it says no, there are few, with short names -/
def SaysN (l : List Entry) (w : World) (e : Ending) (w' : World) : Prop := ∃ b, e = .returned (.bool b) ∧ (b = false → l.length ≤ 70 ∧ ∀ x ∈ l, x.name.length ≤ 300) ∧ Below w.heap.size w w'
theorem SaysN.yes {l : List Entry} {w w' : World} (hb : Below w.heap.size w w') : SaysN l w (.returned (.bool true)) w' := ⟨true, rfl, (fun h => by cases h), hb⟩
theorem SaysN.no {l : List Entry} {w w' : World} (h : l.length ≤ 70 ∧ ∀ x ∈ l, x.name.length ≤ 300) (hb : Below w.heap.size w w') : SaysN l w (.returned (.bool false)) w' := ⟨false, rfl, (fun _ => h), hb⟩

set_option maxRecDepth 20000 in
set_option maxHeartbeats 1600000 in
theorem large20_any (A : Option Addr) (c : Nat) (l : List Entry) (w : World) (hl : l.length ≤ 9223372036854775807) (hA : At w 15 A (l.map Entry.vals)) :
    Calls Try.prog 7 #[.slice A l.length c] w (SaysN l w) := by
  go_enter Try.func7, Try.ntmps7
  go_wp2
  go_loop [3] (fun i => ∃ k : Nat, k ≤ l.length ∧ k ≤ 70 ∧ i = .int .i64 k ∧ ∀ (j : Nat) (hj : j < l.length), j < k → l[j].name.length ≤ 300) (fun i => l.length - (intOf i).toNat)
  case atStart => exact ⟨0, Nat.zero_le _, by omega, rfl, fun _ _ h => absurd h (Nat.not_lt_zero _)⟩
  case round =>
    obtain ⟨k, hk, hk7, rfl, hno⟩ := hrel
    by_cases hlt : k < l.length ∧ k < 70
    · obtain ⟨hlt, hlt7⟩ := hlt
      obtain ⟨b, off, rfl, hb, -, hc⟩ := rowCell8 Entry.len (by omega) hA hlt
      have c1 := hc 1 (.string (bs l[k].name)) rfl
      have c4 := hc 14 (.string (bs l[k].fh)) rfl
      have z1 := bs_size l[k].name
      have z4 := bs_size l[k].fh
      have HN := Lib.hid (fun (h : l[k].name.length ≤ 300) => (fun (j : Nat) (hj : j < l.length) (hjk : j < k + 1) => (show l[j].name.length ≤ 300 from by
        rcases Nat.lt_or_ge j k with h1 | h1
        · exact hno j hj h1
        · obtain rfl : j = k := by omega
          exact h)))
      clear hc hA hno
      by_cases q1 : (300 : Int) < (l[k].name.length : Int)
      · go_wp2
        go_ret
        exact SaysN.yes (Below.refl _ _)
      · have HN2 := Lib.hid (HN.out (by omega))
        by_cases q2 : (100 : Int) < (l[k].fh.length : Int)
        · go_wp2
          go_ret
          exact SaysN.yes (Below.refl _ _)
        · go_wp2
          go_round
          case rel => exact ⟨k + 1, by omega, by omega, by go_num, HN2.out⟩
          case measure => simp [intOf]; omega
    · have hE : l.length ≤ k ∨ 70 ≤ k := by omega
      clear hlt hA
      by_cases q1 : (70 : Int) < (l.length : Int)
      · clear hno
        by_cases h1 : k < l.length
        · have p1 : (k : Int) < (l.length : Int) := by omega
          have p2 : ¬ (k : Int) < 70 := by omega
          clear hE h1
          go_wp2
          all_goals (go_ret; exact SaysN.yes (Below.refl _ _))
        · exfalso; omega
      · have HN := Lib.hid (show l.length ≤ 70 ∧ ∀ x ∈ l, x.name.length ≤ 300 from ⟨by omega, fun x hx => by
          obtain ⟨j, hj, rfl⟩ := List.getElem_of_mem hx
          exact hno j hj (by omega)⟩)
        have p1 : ¬ (k : Int) < (l.length : Int) := by omega
        clear hno hE
        go_wp2
        all_goals (go_ret; exact SaysN.no HN.out (Below.refl _ _))
end Go.Proofs.Ytmkhpgpnahligaa

/-
  Layer 20 in plain words: bytes of a node are read, written, resized. No condition.
-/
namespace Go.Proofs.Ytmkhpgpnahligaa

def nFrom (d : List UInt8) (off : Int) : Nat := (min (max off 0) (d.length : Int)).toNat
def nCount (d : List UInt8) (off count : Int) : Nat := (min (min (max count 0) 256) ((d.length : Int) - nFrom d off)).toNat
def nRead (d : List UInt8) (off count : Int) : List UInt8 × Bool := ((d.drop (nFrom d off)).take (nCount d off count), nFrom d off + nCount d off count == d.length)
def nFill (d : List UInt8) (n : Nat) : List UInt8 := d ++ List.replicate (n - d.length) 0
def nWrite (d : List UInt8) (off : Int) (t : List UInt8) : List UInt8 × Int :=
  if off < 0 then ([], 22)
  else if t = [] then (d, 0)
  else if 1024 < off ∨ 1024 - off < (t.length : Int) then ([], 27)
  else ((nFill d (off.toNat + t.length)).take off.toNat ++ (t ++ (nFill d (off.toNat + t.length)).drop (off.toNat + t.length)), 0)
def nResize (d : List UInt8) (n : Int) : List UInt8 × Int :=
  if n < 0 then ([], 22) else if 1024 < n then ([], 27) else ((nFill d n.toNat).take n.toNat, 0)
theorem nFill_len (d : List UInt8) (n : Nat) : (nFill d n).length = max d.length n := by simp [nFill]; omega
end Go.Proofs.Ytmkhpgpnahligaa


/-
  DERIVED: THE SHELF's CONTRACTS AT THIS DUMP, IN PLAIN WORDS (tools/lay-plain.mjs out of 'TryShelf.lean', which tools/lay-shelf.mjs wrote): THE SAME DECLARATIONS UNDER THE SAME NAMES: 'import', 'namespace', 'open', 'def', 'theorem' AND NOTHING ELSE: no command of the shelf's: FOR A HAND-IN. Each laying: the table of numbers ('.._ren') and one theorem, a field a fact of the dump's own or the kernel's comparison; each contract: ONE APPLICATION.
-/
namespace Go.Proofs
open Go.Shelf
def Try.lays105_ren : Go.Shelf.Ren := ⟨fun | 105 => 42 | 212 => 56 | 99 => 57 | 165 => 58 | 166 => 59 | 170 => 60 | 169 => 61 | 263 => 75 | 264 => 76 | 206 => 77 | 240 => 78 | 241 => 79 | 276 => 83 | 277 => 84 | n => n, fun | 9 => 9 | 3 => 3 | 4 => 4 | 20 => 20 | 0 => 0 | 46 => 84 | 109 => 94 | 5 => 5 | 72 => 99 | 76 => 102 | 51 => 112 | 146 => 113 | 53 => 115 | 148 => 116 | 70 => 97 | 37 => 75 | 75 => 101 | 127 => 118 | 164 => 122 | 80 => 80 | n => n, fun | n => n⟩
theorem Try.lays105 : Go.Proofs.Lays.n105 Try.prog Try.lays105_ren := {
  mixed := by kernel_rfl
  f99 := Try.func57.trans (congrArg some (by kernel_rfl))
  f105 := Try.func42.trans (congrArg some (by kernel_rfl))
  f165 := Try.func58.trans (congrArg some (by kernel_rfl))
  f166 := Try.func59.trans (congrArg some (by kernel_rfl))
  f169 := Try.func61.trans (congrArg some (by kernel_rfl))
  f170 := Try.func60.trans (congrArg some (by kernel_rfl))
  f206 := Try.func77.trans (congrArg some (by kernel_rfl))
  f212 := Try.func56.trans (congrArg some (by kernel_rfl))
  f240 := Try.func78.trans (congrArg some (by kernel_rfl))
  f241 := Try.func79.trans (congrArg some (by kernel_rfl))
  f263 := Try.func75.trans (congrArg some (by kernel_rfl))
  f264 := Try.func76.trans (congrArg some (by kernel_rfl))
  f276 := Try.func83.trans (congrArg some (by kernel_rfl))
  f277 := Try.func84.trans (congrArg some (by kernel_rfl))
  t0 := Try.underlying0
  a0 := Try.isAgg0
  z0 := Try.sizeOf0
  v0 := Try.zeroValue0
  t3 := Try.underlying3
  a3 := Try.isAgg3
  z3 := Try.sizeOf3
  v3 := Try.zeroValue3
  t4 := Try.underlying4
  a4 := Try.isAgg4
  z4 := Try.sizeOf4
  v4 := Try.zeroValue4
  t5 := Try.underlying5
  a5 := Try.isAgg5
  z5 := Try.sizeOf5
  v5 := Try.zeroValue5
  t9 := Try.underlying9
  a9 := Try.isAgg9
  z9 := Try.sizeOf9
  v9 := Try.zeroValue9
  t20 := Try.underlying20
  a20 := Try.isAgg20
  z20 := Try.sizeOf20
  v20 := Try.zeroValue20
  t37 := Try.underlying75
  a37 := Try.isAgg75
  z37 := Try.sizeOf75
  v37 := Try.zeroValue75
  t46 := Try.underlying84
  a46 := Try.isAgg84
  z46 := Try.sizeOf84
  v46 := Try.zeroValue84
  t51 := Try.underlying112
  a51 := Try.isAgg112
  z51 := Try.sizeOf112
  v51 := Try.zeroValue112
  t53 := Try.underlying115
  a53 := Try.isAgg115
  z53 := Try.sizeOf115
  v53 := Try.zeroValue115
  t70 := Try.underlying97
  a70 := Try.isAgg97
  z70 := Try.sizeOf97
  v70 := Try.zeroValue97
  t72 := Try.underlying99
  a72 := Try.isAgg99
  z72 := Try.sizeOf99
  v72 := Try.zeroValue99
  t75 := Try.underlying101
  a75 := Try.isAgg101
  z75 := Try.sizeOf101
  v75 := Try.zeroValue101
  t76 := Try.underlying102
  a76 := Try.isAgg102
  z76 := Try.sizeOf102
  v76 := Try.zeroValue102
  t109 := Try.underlying94
  a109 := Try.isAgg94
  z109 := Try.sizeOf94
  v109 := Try.zeroValue94
  t127 := Try.underlying118
  a127 := Try.isAgg118
  z127 := Try.sizeOf118
  v127 := Try.zeroValue118
  t146 := Try.underlying113
  a146 := Try.isAgg113
  z146 := Try.sizeOf113
  v146 := Try.zeroValue113
  t148 := Try.underlying116
  a148 := Try.isAgg116
  z148 := Try.sizeOf116
  v148 := Try.zeroValue116
  t164 := Try.underlying122
  a164 := Try.isAgg122
  z164 := Try.sizeOf122
  v164 := Try.zeroValue122 }
theorem Try.Builder_Extra_105 : Builder.Extra Try.prog Try.lays105_ren := {
  sizeBuilder := by kernel_rfl
  liesBuilder := by kernel_rfl
  t5 := Try.underlying5
  a5 := Try.isAgg5
  z5 := Try.sizeOf5
  v5 := Try.zeroValue5
  infoByte := by kernel_rfl
  cellsByte := by kernel_rfl
  sizeByte := by kernel_rfl
  neB5 := by decide }
open Go.RowKit Go.Lib in
/-- **strings.Repeat: count ≥ 0, the result within one allocation: count copies of s.** (LAID: no walk: one application.) -/
theorem Try.strings_Repeat (s : ByteArray) (c : Nat) (w : World) (hc : c ≤ 9223372036854775807) (hlen : s.size * c ≤ 140737488355328) :
    Calls Try.prog 42 #[.string s, .int .i64 c] w fun e w' => e = .returned (.string ⟨(Lib.repeatL s.data.toList c).toArray⟩) ∧ Below w.heap.size w w' := Any.strings_Repeat Try.lays105 Try.Builder_Extra_105 s c w hc hlen
end Go.Proofs


/-
  Layer 20, walks: bytes of a node are read, written, resized by the program. Conditions: texts of at most 2^20 bytes.
-/
namespace Go.Proofs.Ytmkhpgpnahligaa
open Go.RowKit
attribute [local go_sem ↓] Go.wp_at_zero Go.wp_at_succ
attribute [local go_sem] rowAt_ptr rowOf_drew rowOf_drewN rowOf_alloc_past rowOf_new
attribute [local go_sem] bs_take bs_drop bs_get

theorem bs_slice (s : List UInt8) (a b : Nat) : (bs s).extract a b = bs ((s.drop a).take (b - a)) := by
  apply ByteArray.ext
  simp [List.extract]
theorem repeatL_zero (n : Nat) : Lib.repeatL [0] n = List.replicate n (0 : UInt8) := by
  induction n with
  | zero => rfl
  | succ n ih => rw [Lib.repeatL, ih]; rfl
theorem nread_leaf {d : List UInt8} {off count : Int} {a b : Nat} {c : Bool} (ha : a = nFrom d off) (hb : b = nFrom d off + nCount d off count) (hc : c = (nFrom d off + nCount d off count == d.length)) :
    Ending.returned (.tuple #[.string ((bs d).extract a b), .bool c]) = .returned (.tuple #[.string (bs (nRead d off count).1), .bool (nRead d off count).2]) := by
  subst ha hb hc
  rw [bs_slice, Nat.add_sub_cancel_left]
  rfl

set_option maxHeartbeats 400000 in
theorem nread_any (d : List UInt8) (off count : Int) (w : World) (hl : d.length ≤ 1048576) (ho : -9223372036854775808 ≤ off ∧ off ≤ 9223372036854775807) (hc : -9223372036854775808 ≤ count ∧ count ≤ 9223372036854775807) :
    Calls Try.prog 23 #[.string (bs d), .int .i64 off, .int .i64 count] w fun e w' => e = .returned (.tuple #[.string (bs (nRead d off count).1), .bool (nRead d off count).2]) ∧ w = w' := by
  have hsz := bs_size d
  go_enter Try.func23, Try.ntmps23
  go_wp2
  all_goals
    go_ret2
    refine ⟨nread_leaf ?_ ?_ ?_, rfl⟩
    all_goals
      go_light
      first | (unfold nFrom; omega) | (unfold nCount nFrom; omega) | (rw [Bool.eq_iff_iff, beq_iff_eq, beq_iff_eq]; unfold nCount nFrom; omega)

/-- texts that are put together -/
theorem add_bs (a b : List UInt8) (h : a.length + b.length ≤ 9223372036854775807) : Op.stringOp .add (bs a) (bs b) = pure (.string (bs (a ++ b))) := by
  have h2 : ¬ (((bs a).size + (bs b).size : Nat) : Int) > IntKind.i64.max := by
    rw [bs_size, bs_size]
    show ¬ (((a.length + b.length : Nat) : Int) > 9223372036854775807)
    omega
  simp only [Op.stringOp]
  rw [if_neg h2, bs_append]
attribute [local go_sem ↓] add_bs

set_option maxHeartbeats 400000 in
theorem nfilled_any (d : List UInt8) (n : Nat) (w : World) (hl : d.length ≤ 1048576) (hn : n ≤ 1048576) :
    Calls Try.prog 35 #[.string (bs d), .int .i64 n] w fun e w' => e = .returned (.string (bs (nFill d n))) ∧ Below w.heap.size w w' := by
  have hsz := bs_size d
  have hk : max (0 : Int) ((n : Int) - (d.length : Int)) = ((n - d.length : Nat) : Int) := by omega
  have hrl : (List.replicate (n - d.length) (0 : UInt8)).length = n - d.length := by simp
  have hsum : d.length + (List.replicate (n - d.length) (0 : UInt8)).length ≤ 9223372036854775807 := by omega
  go_enter Try.func35, Try.ntmps35
  go_wp2_with fail
  refine (Try.strings_Repeat ⟨#[0]⟩ (n - d.length) _ (by omega) (by show 1 * (n - d.length) ≤ _; omega)).mono ?_
  rintro e w1 ⟨he, hb⟩
  rw [show (⟨#[0]⟩ : ByteArray).data.toList = [0] from rfl, repeatL_zero] at he
  change e = .returned (.string (bs (List.replicate (n - d.length) 0))) at he
  generalize hr : List.replicate (n - d.length) (0 : UInt8) = r at *
  have HR := Lib.hid hr
  clear hr hrl
  subst he
  go_wp2
  go_ret
  exact ⟨by rw [HR.out.symm]; rfl, hb⟩

set_option maxHeartbeats 1000000 in
theorem nwrite_any (d : List UInt8) (off : Int) (t : List UInt8) (w : World) (hl : d.length ≤ 1048576) (ht : t.length ≤ 1048576) (ho : -9223372036854775808 ≤ off ∧ off ≤ 9223372036854775807) :
    Calls Try.prog 22 #[.string (bs d), .int .i64 off, .string (bs t)] w fun e w' => e = .returned (.tuple #[.string (bs (nWrite d off t).1), .int .i64 (nWrite d off t).2]) ∧ Below w.heap.size w w' := by
  have hst := bs_size t
  by_cases h0 : off < 0
  · have HS := Lib.hid (show nWrite d off t = ([], 22) by simp [nWrite, h0])
    go_enter Try.func22, Try.ntmps22
    go_wp2
    go_ret2
    rw [HS.out]
    exact ⟨rfl, Below.refl _ _⟩
  · by_cases h1 : t = []
    · subst h1
      have HS := Lib.hid (show nWrite d off [] = (d, 0) by simp [nWrite, h0])
      go_enter Try.func22, Try.ntmps22
      go_wp2
      go_ret2
      rw [HS.out]
      exact ⟨rfl, Below.refl _ _⟩
    · have hne : t.isEmpty = false := by simpa using h1
      by_cases h2 : 1024 < off ∨ 1024 - off < (t.length : Int)
      · have HS := Lib.hid (show nWrite d off t = ([], 27) by simp [nWrite, h0, h1, h2])
        clear h1
        by_cases h3 : 1024 < off
        all_goals
          go_enter Try.func22, Try.ntmps22
          go_wp2
          go_ret2
          rw [HS.out]
          exact ⟨rfl, Below.refl _ _⟩
      · obtain ⟨k, rfl⟩ := Int.eq_ofNat_of_zero_le (show 0 ≤ off by omega)
        have HS := Lib.hid (show nWrite d k t = ((nFill d (k + t.length)).take k ++ (t ++ (nFill d (k + t.length)).drop (k + t.length)), 0) by simp [nWrite, h1, h2])
        have hfl := nFill_len d (k + t.length)
        have hk1 : k + t.length ≤ 1024 := by omega
        have hfu : (nFill d (k + t.length)).length ≤ 1048576 := by omega
        have hfd : k + t.length ≤ (nFill d (k + t.length)).length := by omega
        have hg1 : ¬ (1024 : Int) < (k : Int) := by omega
        have hg2 : ¬ (1024 : Int) - (k : Int) < (t.length : Int) := by omega
        clear h1 h2 hfl
        go_enter Try.func22, Try.ntmps22
        go_wp2_with fail
        refine (nfilled_any d (k + t.length) _ hl (by omega)).mono ?_
        rintro e w1 ⟨rfl, hb⟩
        generalize nFill d (k + t.length) = f at *
        have hfs := bs_size f
        have a1 : (f.take k).length + t.length ≤ 9223372036854775807 := by rw [List.length_take]; omega
        have a2 : (f.take k ++ t).length + (f.drop (k + t.length)).length ≤ 9223372036854775807 := by rw [List.length_append, List.length_take, List.length_drop]; omega
        have a3 : min k f.length + t.length ≤ 9223372036854775807 := by omega
        have a4 : min k f.length + t.length + (f.length - (k + t.length)) ≤ 9223372036854775807 := by omega
        have e1 : IntKind.i64.wrap ((k : Int) + (t.length : Int)) = (k : Int) + (t.length : Int) := IntWalk.i64_in _ (by omega)
        have e2 : ((k : Int) + (t.length : Int)).toNat = k + t.length := by omega
        have e3 : (0 : Int) ≤ (k : Int) + (t.length : Int) := by omega
        have e4 : (k : Int) + (t.length : Int) ≤ (f.length : Int) := by omega
        have e5 : (k : Int) ≤ (f.length : Int) := by omega
        go_wp2
        go_quiet (fail)
        go_wp2
        go_ret2
        rw [HS.out]
        exact ⟨rfl, hb.trans (bdN (Below.refl _ _) _)⟩
end Go.Proofs.Ytmkhpgpnahligaa


/-
  Layer 20 in plain words: what is written is read there, and all other bytes are as they were. Conditions as told.
-/
namespace Go.Proofs.Ytmkhpgpnahligaa

/-- bytes with a text in them -/
def nLaid (d : List UInt8) (k : Nat) (t : List UInt8) : List UInt8 := (nFill d (k + t.length)).take k ++ (t ++ (nFill d (k + t.length)).drop (k + t.length))
theorem nLaid_len (d : List UInt8) (k : Nat) (t : List UInt8) : (nLaid d k t).length = max d.length (k + t.length) := by
  have := nFill_len d (k + t.length)
  simp only [nLaid, List.length_append, List.length_take, List.length_drop]
  omega
theorem nLaid_read (d : List UInt8) (k : Nat) (t : List UInt8) (h : t.length ≤ 256) : (nRead (nLaid d k t) k t.length).1 = t := by
  have hl := nLaid_len d k t
  have hf := nFill_len d (k + t.length)
  have h1 : nFrom (nLaid d k t) k = k := by unfold nFrom; omega
  have h2 : nCount (nLaid d k t) k t.length = t.length := by unfold nCount; rw [h1]; omega
  show ((nLaid d k t).drop (nFrom (nLaid d k t) k)).take (nCount (nLaid d k t) k t.length) = t
  rw [h1, h2]
  unfold nLaid
  rw [List.drop_left' (by simp; omega), List.take_left' rfl]
theorem nFill_get (d : List UInt8) (n j : Nat) (h : j < (nFill d n).length) : (nFill d n)[j] = d.getD j 0 := by
  unfold nFill at h ⊢
  rw [List.getElem_append]
  split
  · simp [List.getD, *]
  · rw [List.getElem_replicate]
    simp [List.getD, List.getElem?_eq_none (show d.length ≤ j by omega)]
theorem nLaid_get (d : List UInt8) (k : Nat) (t : List UInt8) (j : Nat) (hj : j < (nLaid d k t).length) (h : j < k ∨ k + t.length ≤ j) : (nLaid d k t)[j] = d.getD j 0 := by
  have hl := nLaid_len d k t
  have hf := nFill_len d (k + t.length)
  have htk : ((nFill d (k + t.length)).take k).length = k := by simp; omega
  unfold nLaid at hj ⊢
  rw [List.getElem_append]
  split
  · rw [List.getElem_take, nFill_get]
  · rw [List.getElem_append]
    split
    · omega
    · rw [List.getElem_drop, nFill_get]
      congr 1
      omega
theorem nWrite_laid (d : List UInt8) (k : Nat) (t : List UInt8) (h1 : t ≠ []) (h2 : k + t.length ≤ 1024) : nWrite d k t = (nLaid d k t, 0) := by
  have h3 : ¬ ((1024 : Int) < k ∨ (1024 : Int) - k < t.length) := by omega
  simp [nWrite, h1, h3, nLaid]
end Go.Proofs.Ytmkhpgpnahligaa


/-
  Layer 20, walks: the law NodeWritten. No condition but machine numbers.
-/
namespace Go.Proofs.Ytmkhpgpnahligaa
open Go.RowKit
attribute [local go_sem ↓] Go.wp_at_zero Go.wp_at_succ
attribute [local go_sem] rowAt_ptr rowOf_drew rowOf_drewN rowOf_alloc_past rowOf_new
attribute [local go_sem] bs_get

set_option maxHeartbeats 800000 in
theorem known20_any (w : World) : Calls Try.prog 8 #[] w fun e w' => e = .returned (.bool true) ∧ Below w.heap.size w w' := by
  go_enter Try.func8, Try.ntmps8
  go_wp2_with fail
  refine (nwrite_any [120] 2 [97, 98] _ (by decide) (by decide) (by decide)).mono ?_
  rintro e w1 ⟨he, hb⟩
  rw [show nWrite [120] 2 [97, 98] = ([120, 0, 97, 98], 0) by decide +kernel] at he
  subst he
  go_wp2_with fail
  refine (nread_any [120, 0, 97, 98] 3 9 _ (by decide) (by decide) (by decide)).mono ?_
  rintro e w2 ⟨he, rfl⟩
  rw [show nRead [120, 0, 97, 98] 3 9 = ([98], true) by decide +kernel] at he
  subst he
  go_wp2
  go_ret
  exact ⟨rfl, hb⟩

end Go.Proofs.Ytmkhpgpnahligaa
