/-
  Layer 20, walks: the document's Same and Large. Conditions: machine lists.
-/
import Derived.Test.YtgifmpobokaejaaGreatDoorF19
import Derived.BigGuardPart
import Derived.Test.YtgifmpobokaejaaGreatDoorF09
namespace Go.Proofs.YtgifmpobokaejaaGreatDoor
open Go.RowKit
attribute [local go_sem ↓] Go.wp_at_zero Go.wp_at_succ
attribute [local go_sem] rowAt_ptr rowOf_drew rowOf_drewN rowOf_alloc_past rowOf_new
attribute [local go_sem ↓] ldEntry neqEntry

attribute [local go_sem] Entry.at0 Entry.lat0 Entry.at1 Entry.lat1 Entry.at2 Entry.lat2 Entry.at3 Entry.lat3 Entry.at4 Entry.lat4 Entry.at5 Entry.lat5 Entry.at6 Entry.lat6 Entry.at7 Entry.lat7 Entry.at8 Entry.lat8 Entry.at9 Entry.lat9 Entry.at10 Entry.lat10 Entry.at11 Entry.lat11 Entry.at12 Entry.lat12 Entry.at13 Entry.lat13 Entry.at14 Entry.lat14 Entry.sub0_15 Entry.lsub0_15 Entry.sub3_11 Entry.lsub3_11 Entry.sub4_10 Entry.lsub4_10 Entry.len guardEntry

set_option maxRecDepth 20000 in
set_option maxHeartbeats 3200000 in
theorem same20_any (A B : Option Addr) (c d : Nat) (l m : List Entry) (w : World) (hl : l.length ≤ 9223372036854775807) (hm : m.length ≤ 9223372036854775807) (hA : At w 15 A (l.map Entry.vals)) (hB : At w 15 B (m.map Entry.vals)) :
    Calls Tryz.prog 58 #[.slice A l.length c, .slice B m.length d] w fun e w' => e = .returned (.bool (decide (l = m))) ∧ Below w.heap.size w w' := by
  go_enter Tryz.func58, Tryz.ntmps58
  by_cases h1 : l.length = m.length
  case neg =>
    have hne : ((l.length : Int) != (m.length : Int)) = true := by simp; omega
    have HV := Lib.hid (show false = decide (l = m) by rw [decide_eq_false (fun e => h1 (by rw [e]))])
    clear h1
    go_wp2
    go_ret
    exact ⟨ret_bool HV.out, Below.refl _ _⟩
  have hne : ((l.length : Int) != (m.length : Int)) = false := by simp [h1]
  have H1 := Lib.hid h1
  clear h1
  go_wp2
  go_loopw [5] (fun i wr => ∃ k : Nat, k ≤ l.length ∧ i = .int .i64 k ∧ l.take k = m.take k ∧ Below w.heap.size w wr) (fun i _ => l.length - (intOf i).toNat)
  case atStart => exact ⟨0, Nat.zero_le _, rfl, rfl, Below.refl _ _⟩
  case round =>
    obtain ⟨k, hk, rfl, ht, hb⟩ := hrel
    by_cases hlt : k < l.length
    · have hltm : k < m.length := by have := H1.out; omega
      obtain ⟨b1, o1, rfl, hb1, r1, -⟩ := rowCell8 Entry.len (by omega) (hA.below hb) hlt
      obtain ⟨b2, o2, rfl, hb2, r2, -⟩ := rowCell8 Entry.len (by omega) (hB.below hb) hltm
      have hk0 : (0 : Int) ≤ (k : Int) := Int.natCast_nonneg _
      have hk1 : (k : Int) < (l.length : Int) := by omega
      have hk2 : (k : Int) < (m.length : Int) := by omega
      have HT := Lib.hid (fun h => takeSame8 ht hlt hltm h)
      have HN := Lib.hid (show l[k] ≠ m[k] → l ≠ m from fun h e => h (by subst e; rfl))
      have HB := Lib.hid hb
      clear ht hb hne
      by_cases he : l[k] = m[k]
      · have hd : decide (l[k] ≠ m[k]) = false := decide_eq_false (by simpa using he)
        have HS := Lib.hid (HT.out he)
        clear he HT HN
        go_wp2_with fail
        go_region_held3 (fun W => Stb wr W) (first | exact Stb.start | assumption) (first | fail)
        go_wp2
        go_roundw
        case rel => exact ⟨k + 1, by omega, by go_num, HS.out, by first | exact HB.out.drew | exact bdN HB.out _⟩
        case measure => simp [intOf]; omega
      · have hd : decide (l[k] ≠ m[k]) = true := decide_eq_true he
        have HV := Lib.hid (show false = decide (l = m) by rw [decide_eq_false (HN.out he)])
        clear he HT HN
        go_wp2_with fail
        go_region_held3 (fun W => Stb wr W) (first | exact Stb.start | assumption) (first | fail)
        go_wp2
        go_ret
        exact ⟨ret_bool HV.out, by first | exact HB.out.drew | exact bdN HB.out _⟩
    · have hlm : l = m := by
        have h3 : k = l.length := by omega
        rw [h3, List.take_length, H1.out, List.take_length] at ht
        exact ht
      have hk1 : ¬ (k : Int) < (l.length : Int) := by omega
      have HV := Lib.hid (show true = decide (l = m) by rw [decide_eq_true hlm])
      clear ht hlm hne
      go_wp2
      go_ret
      exact ⟨ret_bool HV.out, hb⟩

/-- what Large tells: where it says no, there are few, with short names -/
def SaysN (l : List Entry) (w : World) (e : Ending) (w' : World) : Prop := ∃ b, e = .returned (.bool b) ∧ (b = false → l.length ≤ 70 ∧ ∀ x ∈ l, x.name.length ≤ 300) ∧ Below w.heap.size w w'
theorem SaysN.yes {l : List Entry} {w w' : World} (hb : Below w.heap.size w w') : SaysN l w (.returned (.bool true)) w' := ⟨true, rfl, (fun h => by cases h), hb⟩
theorem SaysN.no {l : List Entry} {w w' : World} (h : l.length ≤ 70 ∧ ∀ x ∈ l, x.name.length ≤ 300) (hb : Below w.heap.size w w') : SaysN l w (.returned (.bool false)) w' := ⟨false, rfl, (fun _ => h), hb⟩

set_option maxRecDepth 20000 in
set_option maxHeartbeats 1600000 in
theorem large20_any (A : Option Addr) (c : Nat) (l : List Entry) (w : World) (hl : l.length ≤ 9223372036854775807) (hA : At w 15 A (l.map Entry.vals)) :
    Calls Tryz.prog 27 #[.slice A l.length c] w (SaysN l w) := by
  go_enter Tryz.func27, Tryz.ntmps27
  go_wp2
  go_loop [3] (fun i => ∃ k : Nat, k ≤ l.length ∧ k ≤ 70 ∧ i = .int .i64 k ∧ ∀ (j : Nat) (hj : j < l.length), j < k → l[j].name.length ≤ 300) (fun i => l.length - (intOf i).toNat)
  case atStart => exact ⟨0, Nat.zero_le _, by omega, rfl, fun _ _ h => absurd h (Nat.not_lt_zero _)⟩
  case round =>
    obtain ⟨k, hk, hk7, rfl, hno⟩ := hrel
    by_cases hlt : k < l.length ∧ k < 70
    · obtain ⟨hlt, hlt7⟩ := hlt
      obtain ⟨b, off, rfl, hb, -, hc⟩ := rowCell8 Entry.len (by omega) hA hlt
      have c1 := hc 1 (.string (bs l[k].name)) rfl
      have c4 := hc 14 (.string (bs l[k].fh)) rfl
      have z1 := bs_size l[k].name
      have z4 := bs_size l[k].fh
      have HN := Lib.hid (fun (h : l[k].name.length ≤ 300) => (fun (j : Nat) (hj : j < l.length) (hjk : j < k + 1) => (show l[j].name.length ≤ 300 from by
        rcases Nat.lt_or_ge j k with h1 | h1
        · exact hno j hj h1
        · obtain rfl : j = k := by omega
          exact h)))
      clear hc hA hno
      by_cases q1 : (300 : Int) < (l[k].name.length : Int)
      · go_wp2
        go_ret
        exact SaysN.yes (Below.refl _ _)
      · have HN2 := Lib.hid (HN.out (by omega))
        by_cases q2 : (100 : Int) < (l[k].fh.length : Int)
        · go_wp2
          go_ret
          exact SaysN.yes (Below.refl _ _)
        · go_wp2
          go_round
          case rel => exact ⟨k + 1, by omega, by omega, by go_num, HN2.out⟩
          case measure => simp [intOf]; omega
    · have hE : l.length ≤ k ∨ 70 ≤ k := by omega
      clear hlt hA
      by_cases q1 : (70 : Int) < (l.length : Int)
      · clear hno
        by_cases h1 : k < l.length
        · have p1 : (k : Int) < (l.length : Int) := by omega
          have p2 : ¬ (k : Int) < 70 := by omega
          clear hE h1
          go_wp2
          all_goals (go_ret; exact SaysN.yes (Below.refl _ _))
        · exfalso; omega
      · have HN := Lib.hid (show l.length ≤ 70 ∧ ∀ x ∈ l, x.name.length ≤ 300 from ⟨by omega, fun x hx => by
          obtain ⟨j, hj, rfl⟩ := List.getElem_of_mem hx
          exact hno j hj (by omega)⟩)
        have p1 : ¬ (k : Int) < (l.length : Int) := by omega
        clear hno hE
        go_wp2
        all_goals (go_ret; exact SaysN.no HN.out (Below.refl _ _))
end Go.Proofs.YtgifmpobokaejaaGreatDoor

/-
  Layer 20, walks: the document's Find. Conditions: machine lists.
-/
namespace Go.Proofs.YtgifmpobokaejaaGreatDoor
open Go.RowKit
attribute [local go_sem ↓] Go.wp_at_zero Go.wp_at_succ
attribute [local go_sem] rowAt_ptr rowOf_drew rowOf_drewN rowOf_alloc_past rowOf_new
attribute [local go_sem ↓] ldEntry

attribute [local go_sem] Entry.at0 Entry.lat0 Entry.at1 Entry.lat1 Entry.at2 Entry.lat2 Entry.at3 Entry.lat3 Entry.at4 Entry.lat4 Entry.at5 Entry.lat5 Entry.at6 Entry.lat6 Entry.at7 Entry.lat7 Entry.at8 Entry.lat8 Entry.at9 Entry.lat9 Entry.at10 Entry.lat10 Entry.at11 Entry.lat11 Entry.at12 Entry.lat12 Entry.at13 Entry.lat13 Entry.at14 Entry.lat14 Entry.sub0_15 Entry.lsub0_15 Entry.sub3_11 Entry.lsub3_11 Entry.sub4_10 Entry.lsub4_10 Entry.len

/-- the place of a name; -1: there is none -/
def findName (l : List Entry) (s : List UInt8) : Int := if l.findIdx (fun x => x.name == s) < l.length then ((l.findIdx (fun x => x.name == s) : Nat) : Int) else -1
set_option maxRecDepth 20000 in
set_option maxHeartbeats 1600000 in
theorem refFind20_any (A : Option Addr) (c : Nat) (l : List Entry) (s : List UInt8) (w : World) (hl : l.length ≤ 9223372036854775807) (hA : At w 15 A (l.map Entry.vals)) :
    Calls Tryz.prog 99 #[.slice A l.length c, .string (bs s)] w fun e w' => e = .returned (.int .i64 (findName l s)) ∧ w = w' := by
  go_enter Tryz.func99, Tryz.ntmps99
  go_wp2
  go_loop [5] (fun i => ∃ k : Nat, k ≤ l.length ∧ i = .int .i64 k ∧ ∀ (j : Nat) (hj : j < l.length), j < k → (l[j].name == s) = false) (fun i => l.length - (intOf i).toNat)
  case atStart => exact ⟨0, Nat.zero_le _, rfl, fun _ _ h => absurd h (Nat.not_lt_zero _)⟩
  case round =>
    obtain ⟨k, hk, rfl, hno⟩ := hrel
    by_cases hlk : k < l.length
    · obtain ⟨b, off, rfl, hb, -, hc⟩ := rowCell8 Entry.len (by omega) hA hlk
      have c1 := hc 1 (.string (bs l[k].name)) rfl
      have hk0 : (0 : Int) ≤ (k : Int) := Int.natCast_nonneg _
      have hk1 : (k : Int) < (l.length : Int) := by omega
      clear hc hA
      cases hd : (l[k].name == s) with
      | true =>
        have hf : l.findIdx (fun x => x.name == s) = k := by
          rw [List.findIdx_eq hlk]
          exact ⟨hd, fun j hj => by simpa using hno j (by omega) hj⟩
        have HF := Lib.hid (show (k : Int) = findName l s by unfold findName; rw [hf, if_pos hlk])
        clear hno hf
        go_wp2
        go_ret
        exact ⟨ret_int HF.out, rfl⟩
      | false =>
        have HN2 := Lib.hid (show ∀ (j : Nat) (hj : j < l.length), j < k + 1 → (l[j].name == s) = false from fun j hj h => by
          rcases Nat.lt_or_ge j k with h1 | h1
          · exact hno j hj h1
          · obtain rfl : j = k := by omega
            exact hd)
        clear hno
        go_wp2
        go_round
        case rel => exact ⟨k + 1, by omega, by go_num, HN2.out⟩
        case measure => simp [intOf]; omega
    · have hf : ¬ l.findIdx (fun x => x.name == s) < l.length := by
        intro h
        have h1 := List.findIdx_getElem (w := h)
        have h2 := hno _ h (by omega)
        rw [h1] at h2
        cases h2
      have HF := Lib.hid (show (-1 : Int) = findName l s by unfold findName; rw [if_neg hf])
      have hk1 : ¬ (k : Int) < (l.length : Int) := by omega
      clear hno hf hA
      go_wp2
      go_ret
      exact ⟨ret_int HF.out, rfl⟩
end Go.Proofs.YtgifmpobokaejaaGreatDoor


/-
  Layer 20, walks: the program's Find. Condition: a machine list.
-/
namespace Go.Proofs.YtgifmpobokaejaaGreatDoor
open Go.RowKit
attribute [local go_sem ↓] Go.wp_at_zero Go.wp_at_succ
attribute [local go_sem] rowAt_ptr rowOf_drew rowOf_drewN rowOf_alloc_past rowOf_new
attribute [local go_sem ↓] ldEntry

attribute [local go_sem] Entry.at0 Entry.lat0 Entry.at1 Entry.lat1 Entry.at2 Entry.lat2 Entry.at3 Entry.lat3 Entry.at4 Entry.lat4 Entry.at5 Entry.lat5 Entry.at6 Entry.lat6 Entry.at7 Entry.lat7 Entry.at8 Entry.lat8 Entry.at9 Entry.lat9 Entry.at10 Entry.lat10 Entry.at11 Entry.lat11 Entry.at12 Entry.lat12 Entry.at13 Entry.lat13 Entry.at14 Entry.lat14 Entry.sub0_15 Entry.lsub0_15 Entry.sub3_11 Entry.lsub3_11 Entry.sub4_10 Entry.lsub4_10 Entry.len

theorem callFind1 (args : Array Value) (w : World) : (callFunc 128 args).run Tryz.prog w = .ok (.enter 128 args) w := by kernel_rfl
theorem find1_any (x : Entry) (b : Nat) (s : List UInt8) (w : World) (hc : w.cell? ⟨b, 0, none⟩ = some (.string (bs s))) :
    Calls Tryz.prog 128 #[.agg x.vals.toArray, .pointer (some ⟨b, 0, none⟩)] w fun e w' => e = .returned (.bool (x.name == s)) ∧ Below w.heap.size w w' := by
  have hX := Blk.new w 80 x.vals
  have hB : Below w.heap.size w (w.alloc (.cells x.vals.toArray 80)) := (Below.refl _ _).alloc (Nat.le_refl _) _
  have hlt := World.block_lt_of_cell? w _ hc
  have hc1 := (hB.cell (p := ⟨b, 0, none⟩) hlt).trans hc
  have hx := hX.cell
  clear hc
  go_enter Tryz.func128, Tryz.ntmps128
  go_wp2
  go_ret
  exact ⟨rfl, hB⟩
set_option maxRecDepth 20000 in
set_option maxHeartbeats 1600000 in
theorem indexName_any (A : Option Addr) (c : Nat) (l : List Entry) (b : Nat) (s : List UInt8) (w : World) (hl : l.length ≤ 9223372036854775807) (hA : At w 15 A (l.map Entry.vals)) (hc : w.cell? ⟨b, 0, none⟩ = some (.string (bs s))) :
    Calls Tryz.prog 127 #[.slice A l.length c, .func (.func 128) #[] #[.pointer (some ⟨b, 0, none⟩)]] w fun e w' =>
      e = .returned (.int .i64 (findName l s)) ∧ Below w.heap.size w w' := by
  have hcf := callFind1
  have hlt := World.block_lt_of_cell? w _ hc
  go_enter Tryz.func127, Tryz.ntmps127
  go_wp2
  go_loopw [8] (fun i wr => ∃ k : Nat, k ≤ l.length ∧ i = .int .i64 k ∧ (∀ (j : Nat) (hj : j < l.length), j < k → (l[j].name == s) = false) ∧ Below w.heap.size w wr) (fun i _ => l.length - (intOf i).toNat)
  case atStart => exact ⟨0, Nat.zero_le _, rfl, fun _ _ h => absurd h (Nat.not_lt_zero _), Below.refl _ _⟩
  case round =>
    obtain ⟨k, hk, rfl, hno, hb⟩ := hrel
    by_cases hlk : k < l.length
    · obtain ⟨b1, o1, rfl, hb1, r1, -⟩ := rowCell8 Entry.len (by omega) (hA.below hb) hlk
      have hcw := (hb.cell (p := ⟨b, 0, none⟩) hlt).trans hc
      have hk0 : (0 : Int) ≤ (k : Int) := Int.natCast_nonneg _
      have hk1 : (k : Int) < (l.length : Int) := by omega
      have HP := Lib.hid (find1_any l[k] b s wr hcw)
      have HN := Lib.hid hno
      have HB := Lib.hid hb
      have HA := Lib.hid hA
      clear hno hb hA
      go_wp2_with fail
      refine HP.out.mono ?_
      rintro e w2 ⟨rfl, hb2⟩
      have HB2 := Lib.hid (below_then HB.out hb2)
      cases hd : (l[k].name == s) with
      | true =>
        have hf : l.findIdx (fun x => x.name == s) = k := by
          rw [List.findIdx_eq hlk]
          exact ⟨hd, fun j hj => by simpa using HN.out j (by omega) hj⟩
        have HF := Lib.hid (show (k : Int) = findName l s by unfold findName; rw [hf, if_pos hlk])
        clear hf hd
        go_wp2
        go_ret
        exact ⟨ret_int HF.out, HB2.out⟩
      | false =>
        have HN2 := Lib.hid (show ∀ (j : Nat) (hj : j < l.length), j < k + 1 → (l[j].name == s) = false from fun j hj h => by
          rcases Nat.lt_or_ge j k with h1 | h1
          · exact HN.out j hj h1
          · obtain rfl : j = k := by omega
            exact hd)
        clear hd
        go_wp2
        go_roundw
        case rel => exact ⟨k + 1, by omega, by go_num, HN2.out, HB2.out⟩
        case measure => simp [intOf]; omega
    · have hf : ¬ l.findIdx (fun x => x.name == s) < l.length := by
        intro h
        have h1 := List.findIdx_getElem (w := h)
        have h2 := hno _ h (by omega)
        rw [h1] at h2
        cases h2
      have hk1 : ¬ (k : Int) < (l.length : Int) := by omega
      have HF := Lib.hid (show (-1 : Int) = findName l s by unfold findName; rw [if_neg hf])
      clear hno hf
      go_wp2
      go_ret
      exact ⟨ret_int HF.out, hb⟩
/-- the node of a name, and whether there is one -/
def findGen (l : List Entry) (s : List UInt8) : Int × Bool := match l[l.findIdx (fun x => x.name == s)]? with | some x => (x.gen, true) | none => (0, false)
theorem findGen_some {l : List Entry} {s : List UInt8} (h : l.findIdx (fun x => x.name == s) < l.length) : findGen l s = (l[l.findIdx (fun x => x.name == s)].gen, true) := by
  unfold findGen
  rw [List.getElem?_eq_getElem h]
theorem findGen_none {l : List Entry} {s : List UInt8} (h : ¬ l.findIdx (fun x => x.name == s) < l.length) : findGen l s = (0, false) := by
  unfold findGen
  rw [List.getElem?_eq_none (by omega)]
set_option maxRecDepth 20000 in
set_option maxHeartbeats 1600000 in
theorem find20_any (A : Option Addr) (c : Nat) (l : List Entry) (s : List UInt8) (w : World) (hl : l.length ≤ 9223372036854775807) (hA : At w 15 A (l.map Entry.vals)) :
    Calls Tryz.prog 104 #[.slice A l.length c, .string (bs s)] w fun e w' => e = .returned (.tuple #[.int .i64 (findGen l s).1, .bool (findGen l s).2]) ∧ Below w.heap.size w w' := by
  have hX := Blk.new w 9 [.string (bs s)]
  have hB : Below w.heap.size w (w.alloc (.cells #[.string (bs s)] 9)) := (Below.refl _ _).alloc (Nat.le_refl _) _
  have hA1 := hA.below hB
  obtain ⟨w1, hw1⟩ : ∃ V, V = w.alloc (.cells #[.string (bs s)] 9) := ⟨_, rfl⟩
  replace hX : Blk w1 w.heap.size 9 [.string (bs s)] := by rw [hw1]; exact hX
  rw [← hw1] at hB hA1
  have HW1 := Lib.hid hw1
  have K := Lib.hid (indexName_any A c l w.heap.size s w1 hl hA1 (hX.cell 0))
  have HF := Lib.hid (show findName l s = if l.findIdx (fun x => x.name == s) < l.length then ((l.findIdx (fun x => x.name == s) : Nat) : Int) else -1 from rfl)
  have HG1 := Lib.hid (findGen_some (l := l) (s := s))
  have HG2 := Lib.hid (findGen_none (l := l) (s := s))
  clear hw1 hX
  generalize findGen l s = g at *
  generalize l.findIdx (fun x => x.name == s) = k at *
  by_cases hk : k < l.length
  · have HG := Lib.hid (HG1.out hk)
    rw [if_pos hk] at HF
    rw [HF.out] at K
    clear HG1 HG2
    go_enter Tryz.func104, Tryz.ntmps104
    go_wp2_with fail
    change Calls _ _ _ (w.alloc (.cells #[.string (bs s)] 9)) _
    rw [← HW1.out]
    refine K.out.mono ?_
    rintro e w2 ⟨rfl, hb⟩
    obtain ⟨b1, o1, rfl, hb1, -, cc⟩ := rowCell8 Entry.len (by omega) (hA1.below hb) hk
    have c0 := cc 0 _ rfl
    simp only [Nat.add_zero] at c0
    have hk0 : (0 : Int) ≤ (k : Int) := Int.natCast_nonneg _
    have hk1 : (k : Int) < (l.length : Int) := by omega
    have HB := Lib.hid (below_then hB hb)
    clear hb cc hA hA1 hB
    go_wp2
    go_ret2
    exact ⟨by rw [HG.out]; rfl, HB.out⟩
  · have HG := Lib.hid (HG2.out hk)
    rw [if_neg hk] at HF
    rw [HF.out] at K
    clear HG1 HG2
    go_enter Tryz.func104, Tryz.ntmps104
    go_wp2_with fail
    change Calls _ _ _ (w.alloc (.cells #[.string (bs s)] 9)) _
    rw [← HW1.out]
    refine K.out.mono ?_
    rintro e w2 ⟨rfl, hb⟩
    have HB := Lib.hid (below_then hB hb)
    clear hb hA hA1 hB
    go_wp2
    go_ret2
    exact ⟨by rw [HG.out]; rfl, HB.out⟩
end Go.Proofs.YtgifmpobokaejaaGreatDoor


/-
  Layer 20, walks: is an entry's Cookie at most one; slices.IndexFunc with that. Conditions: machine lists.
-/
namespace Go.Proofs.YtgifmpobokaejaaGreatDoor
open Go.RowKit
attribute [local go_sem ↓] Go.wp_at_zero Go.wp_at_succ
attribute [local go_sem] rowAt_ptr rowOf_drew rowOf_drewN rowOf_alloc_past rowOf_new
attribute [local go_sem ↓] ldEntry

attribute [local go_sem] Entry.at0 Entry.lat0 Entry.at1 Entry.lat1 Entry.at2 Entry.lat2 Entry.at3 Entry.lat3 Entry.at4 Entry.lat4 Entry.at5 Entry.lat5 Entry.at6 Entry.lat6 Entry.at7 Entry.lat7 Entry.at8 Entry.lat8 Entry.at9 Entry.lat9 Entry.at10 Entry.lat10 Entry.at11 Entry.lat11 Entry.at12 Entry.lat12 Entry.at13 Entry.lat13 Entry.at14 Entry.lat14 Entry.sub0_15 Entry.lsub0_15 Entry.sub3_11 Entry.lsub3_11 Entry.sub4_10 Entry.lsub4_10 Entry.len

theorem callPage1 (args : Array Value) (w : World) : (callFunc 143 args).run Tryz.prog w = .ok (.enter 143 args) w := by kernel_rfl

theorem page1_any (x : Entry) (b : Nat) (ck : Int) (w : World) (hc : w.cell? ⟨b, 0, none⟩ = some (.int .i64 ck)) :
    Calls Tryz.prog 143 #[.agg x.vals.toArray, .pointer (some ⟨b, 0, none⟩)] w fun e w' => e = .returned (.bool (decide (x.cookie ≤ ck))) ∧ Below w.heap.size w w' := by
  have hX := Blk.new w 80 x.vals
  have hB : Below w.heap.size w (w.alloc (.cells x.vals.toArray 80)) := (Below.refl _ _).alloc (Nat.le_refl _) _
  have hlt := World.block_lt_of_cell? w _ hc
  have hc1 := (hB.cell (p := ⟨b, 0, none⟩) hlt).trans hc
  have hx := hX.cell
  clear hc
  go_enter Tryz.func143, Tryz.ntmps143
  go_wp2
  go_ret
  exact ⟨rfl, hB⟩

/-- the first entry whose Cookie is at most that -/
def firstLe (ck : Int) (l : List Entry) : Nat := l.findIdx fun x => decide (x.cookie ≤ ck)
/-- its place; -1: there is none -/
def foundLe (ck : Int) (l : List Entry) : Int := if firstLe ck l < l.length then (firstLe ck l : Int) else -1

set_option maxRecDepth 20000 in
set_option maxHeartbeats 1600000 in
theorem indexLe_any (A : Option Addr) (c : Nat) (l : List Entry) (b : Nat) (ck : Int) (w : World) (hl : l.length ≤ 9223372036854775807) (hA : At w 15 A (l.map Entry.vals)) (hc : w.cell? ⟨b, 0, none⟩ = some (.int .i64 ck)) :
    Calls Tryz.prog 127 #[.slice A l.length c, .func (.func 143) #[] #[.pointer (some ⟨b, 0, none⟩)]] w fun e w' =>
      e = .returned (.int .i64 (foundLe ck l)) ∧ Below w.heap.size w w' := by
  have hcf := callPage1
  have hlt := World.block_lt_of_cell? w _ hc
  go_enter Tryz.func127, Tryz.ntmps127
  go_wp2
  go_loopw [8] (fun i wr => ∃ k : Nat, k ≤ l.length ∧ i = .int .i64 k ∧ (∀ (j : Nat) (hj : j < l.length), j < k → decide (l[j].cookie ≤ ck) = false) ∧ Below w.heap.size w wr) (fun i _ => l.length - (intOf i).toNat)
  case atStart => exact ⟨0, Nat.zero_le _, rfl, fun _ _ h => absurd h (Nat.not_lt_zero _), Below.refl _ _⟩
  case round =>
    obtain ⟨k, hk, rfl, hno, hb⟩ := hrel
    by_cases hlk : k < l.length
    · obtain ⟨b1, o1, rfl, hb1, r1, -⟩ := rowCell8 Entry.len (by omega) (hA.below hb) hlk
      have hcw := (hb.cell (p := ⟨b, 0, none⟩) hlt).trans hc
      have hk0 : (0 : Int) ≤ (k : Int) := Int.natCast_nonneg _
      have hk1 : (k : Int) < (l.length : Int) := by omega
      have HP := Lib.hid (page1_any l[k] b ck wr hcw)
      have HN := Lib.hid hno
      have HB := Lib.hid hb
      have HA := Lib.hid hA
      clear hno hb hA
      go_wp2_with fail
      refine HP.out.mono ?_
      rintro e w2 ⟨rfl, hb2⟩
      have HB2 := Lib.hid (below_then HB.out hb2)
      cases hd : decide (l[k].cookie ≤ ck) with
      | true =>
        have hf : firstLe ck l = k := by
          unfold firstLe
          rw [List.findIdx_eq hlk]
          exact ⟨hd, fun j hj => by simpa using HN.out j (by omega) hj⟩
        have HF := Lib.hid (show (k : Int) = foundLe ck l by unfold foundLe; rw [hf, if_pos hlk])
        clear hf hd
        go_wp2
        go_ret
        exact ⟨ret_int HF.out, HB2.out⟩
      | false =>
        have HN2 := Lib.hid (show ∀ (j : Nat) (hj : j < l.length), j < k + 1 → decide (l[j].cookie ≤ ck) = false from fun j hj h => by
          rcases Nat.lt_or_ge j k with h1 | h1
          · exact HN.out j hj h1
          · obtain rfl : j = k := by omega
            exact hd)
        clear hd
        go_wp2
        go_roundw
        case rel => exact ⟨k + 1, by omega, by go_num, HN2.out, HB2.out⟩
        case measure => simp [intOf]; omega
    · have hf : ¬ firstLe ck l < l.length := by
        unfold firstLe
        intro h
        have h1 := List.findIdx_getElem (w := h)
        have h2 := hno _ h (by omega)
        rw [h1] at h2
        cases h2
      have hk1 : ¬ (k : Int) < (l.length : Int) := by omega
      have HF := Lib.hid (show (-1 : Int) = foundLe ck l by unfold foundLe; rw [if_neg hf])
      clear hno hf
      go_wp2
      go_ret
      exact ⟨ret_int HF.out, hb⟩
end Go.Proofs.YtgifmpobokaejaaGreatDoor


/-
  Layer 20, walks: slices.DeleteFunc of the entries whose Cookie is at most one, in a row of the call's own. Conditions: lengths.
-/
namespace Go.Proofs.YtgifmpobokaejaaGreatDoor
open Go.RowKit
attribute [local go_sem ↓] Go.wp_at_zero Go.wp_at_succ
attribute [local go_sem] rowAt_ptr rowOf_drew rowOf_drewN rowOf_alloc_past rowOf_new
attribute [local go_sem ↓] ldEntry

attribute [local go_sem] Entry.at0 Entry.lat0 Entry.at1 Entry.lat1 Entry.at2 Entry.lat2 Entry.at3 Entry.lat3 Entry.at4 Entry.lat4 Entry.at5 Entry.lat5 Entry.at6 Entry.lat6 Entry.at7 Entry.lat7 Entry.at8 Entry.lat8 Entry.at9 Entry.lat9 Entry.at10 Entry.lat10 Entry.at11 Entry.lat11 Entry.at12 Entry.lat12 Entry.at13 Entry.lat13 Entry.at14 Entry.lat14 Entry.sub0_15 Entry.lsub0_15 Entry.sub3_11 Entry.lsub3_11 Entry.sub4_10 Entry.lsub4_10 Entry.len

/-- the entries behind a Cookie -/
def behind (ck : Int) (l : List Entry) : List Entry := l.filter fun x => !decide (x.cookie ≤ ck)

theorem At.midRow {w : World} {sz : Nat} {A : Option Addr} {R S : List (List Value)} {r : List Value} (h : At w sz A (R ++ r :: S)) (hr : r.length = sz) (h0 : 0 < sz) :
    ∃ b off, A = some ⟨b, off, none⟩ ∧ b < w.heap.size ∧ rowOf w b (off + R.length * sz) sz = some r.toArray := by
  have hk : R.length < (R ++ r :: S).length := by simp
  obtain ⟨b, off, hA, hb, hc⟩ := h.range hk
  have e : (R ++ r :: S)[R.length] = r := by simp
  rw [e] at hc
  exact ⟨b, off, hA, hb, rowOf_of hc hr h0⟩

theorem RowS.thereRow {w : World} {B g cap n sz : Nat} {T : TypeId} {rows : List (List Value)} (h : RowS w B T sz (.slice (some ⟨g, 0, none⟩) n cap) rows) (hn : n = rows.length) (i k : Nat) (hk : i * sz + k ≤ n * sz) : w.there g (i * sz) k := by
  intro j hj
  have hown := h.2
  rw [← hn] at hown
  refine ⟨?_, hown.frozenAt _⟩
  rw [hown.cellAt _ (by omega)]
  rw [List.getElem?_eq_getElem (by have := hown.1; omega)]
  rfl

theorem behind_take {ck : Int} {l : List Entry} {k : Nat} (hk : k < l.length) : behind ck (l.take (k + 1)) = behind ck (l.take k) ++ if decide (l[k].cookie ≤ ck) then [] else [l[k]] := by
  unfold behind
  rw [take_next _ _ hk, List.filter_append]
  cases h : decide (l[k].cookie ≤ ck) <;> simp [h]

theorem firstLe_before {ck : Int} {l : List Entry} {j : Nat} (h : j < firstLe ck l) (hj : j < l.length) : decide (l[j].cookie ≤ ck) = false := by
  have h2 : j < l.findIdx fun x => decide (x.cookie ≤ ck) := h
  have := List.not_of_lt_findIdx h2
  simpa using this
theorem behind_first {ck : Int} {l : List Entry} (h : firstLe ck l < l.length) : behind ck (l.take (firstLe ck l + 1)) = l.take (firstLe ck l) := by
  have h1 : decide (l[firstLe ck l].cookie ≤ ck) = true := List.findIdx_getElem (w := h)
  rw [behind_take h, h1, if_pos rfl, List.append_nil]
  unfold behind
  rw [List.filter_eq_self]
  intro x hx
  obtain ⟨j, hj, rfl⟩ := List.getElem_of_mem hx
  rw [List.length_take] at hj
  rw [List.getElem_take, firstLe_before (by omega) (by omega)]
  rfl
theorem behind_none {ck : Int} {l : List Entry} (h : ¬ firstLe ck l < l.length) : behind ck l = l := by
  unfold behind
  rw [List.filter_eq_self]
  intro x hx
  obtain ⟨j, hj, rfl⟩ := List.getElem_of_mem hx
  rw [firstLe_before (by omega) hj]
  rfl

/-- a slice of no cells, or of cells in blocks from B on -/
def Fresh (B : Nat) (A : Option Addr) : Prop := ∀ p, A = some p → B ≤ p.block
/-- what DeleteFunc leaves -/
def DelPost (w : World) (B : Nat) (ck : Int) (l : List Entry) (e : Ending) (w' : World) : Prop :=
  ∃ A c, e = .returned (.slice A (behind ck l).length c) ∧ (behind ck l).length ≤ c ∧ At w' 15 A ((behind ck l).map Entry.vals) ∧ Below B w w' ∧ Fresh B A ∧ RowS w' B 80 15 (.slice A (behind ck l).length c) ((behind ck l).map Entry.vals)

theorem infoEntry2 : (Tryz.prog.info? 80).map (fun i => (i.zero, i.size)) = some (some (.agg (Entry.mk 0 [] 0 postZ8 []).vals.toArray), 15) := by kernel_rfl
/-- in DeleteFunc's loop: so many are kept (the first number), so many are looked at (the second) -/
def DelRel (w : World) (B g c : Nat) (ck : Int) (l : List Entry) (i j : Int) (W : World) : Prop :=
  ∃ (pre : List Entry) (mid : List (List Value)) (k : Nat), k ≤ l.length ∧ i = (pre.length : Int) ∧ j = (k : Int) ∧ pre = behind ck (l.take k) ∧ 0 < mid.length ∧ pre.length + mid.length = k ∧
    RowS W B 80 15 (.slice (some ⟨g, 0, none⟩) l.length c) (pre.map Entry.vals ++ (mid ++ (l.drop k).map Entry.vals)) ∧ Below B w W
theorem DelRel.stays {w W W' : World} {B g c : Nat} {ck : Int} {l : List Entry} {i j : Int} (h : DelRel w B g c ck l i j W) (hb : Below W.heap.size W W') (hB : B ≤ W.heap.size) : DelRel w B g c ck l i j W' := by
  obtain ⟨pre, mid, k, h1, h2, h3, h4, h5, h6, h7, h8⟩ := h
  exact ⟨pre, mid, k, h1, h2, h3, h4, h5, h6, h7.stays hb, h8.trans (hb.mono hB)⟩

set_option maxRecDepth 20000 in
set_option maxHeartbeats 3200000 in
theorem deleteLe_any (A : Option Addr) (c : Nat) (l : List Entry) (b : Nat) (ck : Int) (w : World) (B : Nat) (hl : l.length ≤ 1000000) (hR : RowS w B 80 15 (.slice A l.length c) (l.map Entry.vals)) (hB : B ≤ w.heap.size) (hb : b < B) (hc : w.cell? ⟨b, 0, none⟩ = some (.int .i64 ck)) :
    Calls Tryz.prog 142 #[.slice A l.length c, .func (.func 143) #[] #[.pointer (some ⟨b, 0, none⟩)]] w (DelPost w B ck l) := by
  have hcf := callPage1
  obtain ⟨A', c', hv, hAt⟩ := hR.at_
  injection hv with hA' hn' hc'
  subst hA' hc'
  clear hn'
  have HI := Lib.hid (indexLe_any A c l b ck w (by omega) hAt hc)
  by_cases hf : firstLe ck l < l.length
  case neg =>
    have hfl : foundLe ck l = -1 := by unfold foundLe; rw [if_neg hf]
    rw [hfl] at HI
    have hbe := behind_none hf
    have hFr : Fresh B A := fun p h => (hR.lt p.block (by rw [h]; rfl)).1
    have hcap : l.length ≤ c := by
      rcases hR.2.2 with ⟨h, h1⟩ | ⟨g, cap, cur, h, _, _, h2, _⟩
      · rw [List.length_map] at h1; omega
      · injection h with _ _ h; rw [List.length_map] at h2; omega
    have HQ := Lib.hid (fun (w2 : World) (hb2 : Below w.heap.size w w2) => (show DelPost w B ck l (.returned (.slice A l.length c)) w2 from ⟨A, c, by rw [hbe], by rw [hbe]; exact hcap, by rw [hbe]; exact hAt.below hb2, hb2.mono hB, hFr, by rw [hbe]; exact hR.stays hb2⟩))
    clear hAt hR hc hbe hfl hf hFr
    go_enter Tryz.func142, Tryz.ntmps142
    go_wp2_with fail
    refine HI.out.mono ?_
    rintro e w2 ⟨rfl, hb2⟩
    go_wp2
    go_ret
    exact HQ.out _ hb2
  have hfl : foundLe ck l = (firstLe ck l : Int) := by unfold foundLe; rw [if_pos hf]
  rw [hfl] at HI
  have hbf := behind_first hf
  obtain ⟨g, cap, hg, hcap, hv⟩ : ∃ g cap, B ≤ g ∧ l.length ≤ cap ∧ Value.slice A l.length c = .slice (some ⟨g, 0, none⟩) (l.map Entry.vals).length cap := by
    rcases hR.2.2 with ⟨_, h⟩ | ⟨g, cap, cur, hv, hg, _, h2, _⟩
    · rw [List.length_map] at h; omega
    · rw [List.length_map] at h2
      exact ⟨g, cap, hg, h2, hv⟩
  injection hv with hea hn2 hec
  clear hn2
  subst hea hec
  have hbw := World.block_lt_of_cell? w _ hc
  have hlr : ∀ r ∈ l.map Entry.vals, r.length = 15 := hR.1
  have H0 := Lib.hid (show DelRel w B g c ck l (firstLe ck l : Int) ((firstLe ck l : Int) + 1) w from ⟨l.take (firstLe ck l), [l[firstLe ck l].vals], firstLe ck l + 1, by omega, by rw [List.length_take]; omega, by omega, hbf.symm, by simp, by simp; omega, by
    have e2 : l.map Entry.vals = (l.take (firstLe ck l)).map Entry.vals ++ ([l[firstLe ck l].vals] ++ (l.drop (firstLe ck l + 1)).map Entry.vals) := by
      conv => lhs; rw [← List.take_append_drop (firstLe ck l) l, List.map_append, ← List.getElem_cons_drop hf]
      rfl
    rw [← e2]
    exact hR, Below.refl _ _ |>.mono hB⟩)
  clear hR hAt hbf hlr hfl
  have hkf : (firstLe ck l : Int) < (l.length : Int) := by omega
  generalize firstLe ck l = k0 at *
  go_enter Tryz.func142, Tryz.ntmps142
  go_wp2_with fail
  refine HI.out.mono ?_
  rintro e w1 ⟨rfl, hb1⟩
  have hk9 : (k0 : Int) ≠ -1 := by omega
  have hw9 : IntKind.i64.wrap ((k0 : Int) + 1) = (k0 : Int) + 1 := IntWalk.i64_in _ (by omega)
  have H1 := Lib.hid (H0.out.stays hb1 hB)
  clear HI H0
  go_wp2
  clear hw9 hk9 hf hkf
  go_loopw [5, 6] (fun i j wr => ∃ p q : Int, i = .int .i64 p ∧ j = .int .i64 q ∧ DelRel w B g c ck l p q wr) (fun _ j _ => l.length - (intOf j).toNat)
  case atStart => exact ⟨_, _, rfl, rfl, H1.out⟩
  case round =>
    clear H1
    obtain ⟨p, q, rfl, rfl, pre, mid, k, hk, rfl, rfl, hpre, hm, hpm, hRr, hBr⟩ := hrel
    have hcb := (hBr.cell (p := ⟨b, 0, none⟩) hb).trans hc
    have hgl : g < wr.heap.size := (hRr.lt g rfl).2
    by_cases hlk : k < l.length
    · have hsp : pre.map Entry.vals ++ (mid ++ (l.drop k).map Entry.vals) = (pre.map Entry.vals ++ mid) ++ l[k].vals :: (l.drop (k + 1)).map Entry.vals := by
        rw [← List.getElem_cons_drop hlk, List.map_cons, List.append_assoc]
      have hln : l.length = (pre.map Entry.vals ++ (mid ++ (l.drop k).map Entry.vals)).length := by simp; omega
      have hth := hRr.thereRow hln pre.length 15 (by have : (pre.length + 1) * 15 ≤ l.length * 15 := Nat.mul_le_mul_right _ (by omega); omega)
      have hR2 := hRr
      rw [hsp] at hR2
      obtain ⟨A', c', hv, hAt⟩ := hR2.at_
      injection hv with e1 e2 e3
      subst e1
      obtain ⟨b1, o1, e1, -, hrow⟩ := hAt.midRow rfl (by omega)
      injection e1 with e1
      injection e1 with e1 e4 _
      subst e1 e4
      have hpl : (pre.map Entry.vals ++ mid).length = k := by simp; omega
      rw [hpl, Nat.zero_add] at hrow
      have hBt := behind_take (ck := ck) hlk
      rw [← hpre] at hBt
      have HR := Lib.hid (And.intro hRr (And.intro hBr (And.intro hBt (And.intro hsp (And.intro hpm hm)))))
      have hZ := Blk.new wr 80 l[k].vals
      have hba : Below wr.heap.size wr (wr.alloc (.cells l[k].vals.toArray 80)) := (Below.refl _ _).alloc (Nat.le_refl _) _
      have HP := Lib.hid (page1_any l[k] b ck (wr.alloc (.cells l[k].vals.toArray 80)) ((hba.cell (p := ⟨b, 0, none⟩) (World.block_lt_of_cell? wr _ hcb)).trans hcb))
      have HA := Lib.hid (And.intro hZ (And.intro hba hth))
      have hk0 : (0 : Int) ≤ (k : Int) := Int.natCast_nonneg _
      have hk1 : (k : Int) < (l.length : Int) := by omega
      clear hRr hR2 hBr hpre hm hpm hsp hln hAt e2 e3 hpl hBt hZ hba hth hcb
      go_wp2_with (first | (refine wpList_new_struct (by rfl) (by rfl) 80 (by rfl) _ _ (by rfl) l[k].vals infoEntry2 (by rfl) (by rfl) (Entry.one _) (by rfl) (by rfl) ?_) | fail)
      refine HP.out.mono ?_
      rintro e w3 ⟨rfl, hb3⟩
      obtain ⟨hZ, hba, hth⟩ := HA.out
      obtain ⟨hRr, hBr, hBt, hsp, hpm, hm⟩ := HR.out
      have hb2 := below_then hba hb3
      have hk2 : IntKind.i64.wrap ((k : Int) + 1) = ((k + 1 : Nat) : Int) := by rw [IntWalk.i64_in _ (by omega)]; omega
      cases hd : decide (l[k].cookie ≤ ck) with
      | true =>
        rw [hd, if_pos rfl, List.append_nil] at hBt
        have HN := Lib.hid (show DelRel w B g c ck l (pre.length : Int) ((k + 1 : Nat) : Int) w3 from ⟨pre, mid ++ [l[k].vals], k + 1, by omega, rfl, rfl, hBt.symm, by simp, by simp; omega, by
          have hRs := hRr.stays hb2
          rw [hsp] at hRs
          have e : pre.map Entry.vals ++ (mid ++ [l[k].vals] ++ (l.drop (k + 1)).map Entry.vals) = (pre.map Entry.vals ++ mid) ++ l[k].vals :: (l.drop (k + 1)).map Entry.vals := by simp only [List.append_assoc, List.singleton_append]
          rw [e]
          exact hRs, hBr.trans (hb2.mono (by have := hBr.size; omega))⟩)
        clear hRr hBr hBt hsp hpm hm hb2 hb3 hZ hba hth hd HR HA HP
        go_wp2
        go_roundw
        case rel => refine ⟨_, _, _, _, _, _, _, _, _, _, _, _, _, _, _, _, _, _, _, _, _, _, _, ⟨_, _, ?_, ?_, HN.out⟩, rfl⟩ <;> rfl
        case measure => simp [intOf]; omega
      | false =>
        rw [hd, if_neg (by simp)] at hBt
        have hth3 : w3.there g (pre.length * 15) l[k].vals.length := by
          rw [Entry.len]
          exact fun j hj => ⟨by rw [hb2.cell (p := ⟨g, _, none⟩) hgl]; exact (hth j hj).1, by rw [hb2.frozen (p := ⟨g, _, none⟩) hgl]; exact (hth j hj).2⟩
        have hrv : rowOf w3 wr.heap.size 0 15 = some l[k].vals.toArray := (rowOf_below hb3 hZ.lt 0 15).trans (rowOf_of hZ.range (Entry.len _) (by omega))
        have hgb : g ≠ wr.heap.size := by omega
        obtain ⟨m, mid', rfl⟩ : ∃ m mid', mid = m :: mid' := by
          cases mid with
          | nil => simp at hm
          | cons m mid' => exact ⟨m, mid', rfl⟩
        have HN := Lib.hid (show DelRel w B g c ck l ((pre.length + 1 : Nat) : Int) ((k + 1 : Nat) : Int) (w3.setCells g (pre.length * 15) l[k].vals) from ⟨pre ++ [l[k]], mid' ++ [l[k].vals], k + 1, by omega, by simp, rfl, hBt.symm, by simp, by simp at hpm ⊢; omega, by
          have hRs := hRr.stays hb2
          have hp := RowS.put (pre := pre.map Entry.vals) (m := m) (post := mid' ++ (l.drop k).map Entry.vals) (r := l[k].vals) hRs rfl (by simp at hpm ⊢; omega)
          rw [List.length_map] at hp
          have e : (pre ++ [l[k]]).map Entry.vals ++ (mid' ++ [l[k].vals] ++ (l.drop (k + 1)).map Entry.vals) = pre.map Entry.vals ++ l[k].vals :: (mid' ++ (l.drop k).map Entry.vals) := by
            rw [← List.getElem_cons_drop hlk, List.map_cons]; simp
          rw [e]
          exact hp, hBr.trans (Below.setCells hg l[k].vals _ _ (hb2.mono (by have := hBr.size; omega)))⟩)
        have hpk : IntKind.i64.wrap ((pre.length : Int) + 1) = ((pre.length + 1 : Nat) : Int) := by rw [IntWalk.i64_in _ (by omega)]; omega
        have hpl0 : (0 : Int) ≤ (pre.length : Int) := Int.natCast_nonneg _
        have hpl1 : (pre.length : Int) < (l.length : Int) := by omega
        clear hRr hBr hBt hsp hpm hm hb2 hb3 hZ hba hth hd HR HA HP hrow
        generalize l[k] = x at *
        obtain ⟨w4, hw4⟩ : ∃ u, u = w3.setCells g (pre.length * 15) x.vals := ⟨_, rfl⟩
        rw [← hw4] at HN
        have HW4 := Lib.hid hw4
        clear hw4
        go_wp2_with (first | (refine wpList_store_there (by rfl) 80 _ _ (by rfl) g (pre.length * 15) x.vals hth3 (by rfl) (by rfl) (by kernel_rfl) (Entry.one _) ?_; rw [← HW4.out]) | fail)
        go_roundw
        case rel => refine ⟨_, _, _, _, _, _, _, _, _, _, _, _, _, _, _, _, _, _, _, _, _, _, _, ⟨_, _, ?_, ?_, HN.out⟩, rfl⟩ <;> rfl
        case measure => simp [intOf]; omega
    · obtain rfl : k = l.length := by omega
      rw [List.take_length] at hpre
      rw [List.drop_length, List.map_nil, List.append_nil] at hRr
      have hln : l.length = (pre.map Entry.vals ++ mid).length := by simp; omega
      have hth := hRr.thereRow hln pre.length ((l.length - pre.length) * 15) (by rw [← Nat.add_mul, Nat.add_sub_cancel' (by omega)]; exact Nat.le_refl _)
      obtain ⟨i0, hi, hz, hsize, hby⟩ := info_parts infoEntryB
      have hzv : ∀ w, (zeroValue 80).run Tryz.prog w = .ok (.agg (Entry.mk 0 [] 0 postZ8 []).vals.toArray) w := fun w => by simp [zeroValue, typeInfo, hi, hz, go_sem]
      have hcl := fun ty => run_clear_rows (P := Tryz.prog) wr 45 80 ty _ Tryz.underlying45 hzv (sz := 15) rfl (by omega) (by
        intro u hu
        exact Entry.one (Entry.mk 0 [] 0 postZ8 []) u hu) g (pre.length * 15) (l.length - pre.length) (c - pre.length) (by omega) (fun j hj => (hth j hj).1) (fun j hj => (hth j hj).2)
      generalize (Builtin.zeroCells (Value.agg (Entry.mk 0 [] 0 postZ8 []).vals.toArray).cells (l.length - pre.length)).toList = zs at hcl
      obtain ⟨A', c', hv, hAt⟩ := hRr.at_
      injection hv with e1 e2 e3
      subst e1
      have hpr := hAt.prefix_ (fun r hr => by obtain ⟨x, _, rfl⟩ := List.mem_map.1 hr; rfl) zs
      have hpw := RowS.behind hRr.prefix_ rfl zs
      rw [List.length_map] at hpr hpw
      obtain ⟨w4, hw4⟩ : ∃ u, u = wr.setCells g (pre.length * 15) zs := ⟨_, rfl⟩
      have hB4 : Below B w w4 := by rw [hw4]; exact Below.setCells hg zs _ _ hBr
      rw [← hw4] at hpr hcl hpw
      have HQ := Lib.hid (show DelPost w B ck l (.returned (.slice (some ⟨g, 0, none⟩) pre.length c)) w4 from ⟨some ⟨g, 0, none⟩, c, by rw [hpre], by rw [← hpre]; omega, by rw [← hpre]; exact hpr, hB4, fun p h => by injection h with h; rw [← h]; exact hg, by rw [← hpre]; exact hpw⟩)
      have hp1 : ¬ (l.length : Int) < (l.length : Int) := by omega
      have hp2 : (pre.length : Int) ≤ (l.length : Int) := by omega
      have hp3 : (l.length : Int) ≤ (c : Int) := by omega
      have hp4 : (pre.length : Int) ≤ (c : Int) := by omega
      have hp0 : (0 : Int) ≤ (pre.length : Int) := Int.natCast_nonneg _
      have hp5 : ¬ c - pre.length = 0 := by omega
      have hp6 : ¬ c = pre.length := by omega
      have hp7 : ¬ pre.length = c := by omega
      have hp8 : ¬ c ≤ pre.length := by omega
      clear hRr hBr hpre hm hpm hth hi hz hsize hby hzv hAt e2 e3 hpr hpw hB4 hw4 hln hcb hc
      go_wp2
      go_ret
      exact HQ.out
end Go.Proofs.YtgifmpobokaejaaGreatDoor
