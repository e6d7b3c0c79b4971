/-
  Layer 5, walks: whether options may be, by the program and by the reference. No condition.
-/
import Derived.Test.YtfjflkmhhbhceaaGreatDoorProg
import Derived.Test.YtfjflkmhhbhceaaGreatDoorW04
import Derived.OpenShut
import Derived.Test.YtfjflkmhhbhceaaGreatDoorW02
import Derived.ProofKit
import Derived.Deep.Slices
import Derived.ChangeOld
import Derived.Test.YtfjflkmhhbhceaaGreatDoorW03
namespace Go.Proofs.YtfjflkmhhbhceaaGreatDoor
open Go.RowKit
attribute [local go_sem ↓] Go.wp_at_zero Go.wp_at_succ

def limV (p : Int × Int) : List Value := [.int .i64 p.1, .int .i64 p.2]
theorem limV_one (p : Int × Int) : ∀ v ∈ limV p, v.oneCell' = true := by
  intro v hv
  unfold limV at hv
  simp only [List.mem_cons, List.not_mem_nil, or_false] at hv
  rcases hv with rfl | rfl <;> rfl
theorem infoLimit : (Tryz.prog.info? 252).map (fun i => (i.zero, i.size)) = some (some (.agg #[.int .i64 0, .int .i64 0]), 2) := by kernel_rfl
def inLim (p : Int × Int) : Bool := okN p.1 p.2
theorem all_step {α : Type} {p : α → Bool} {l : List α} {k : Nat} (hk : k < l.length) (hn : (l.take k).all p = true) (h : p l[k] = true) : (l.take (k + 1)).all p = true := by
  rw [take_next _ _ hk, List.all_append, hn]; simp [h]
theorem all_hit {α : Type} {p : α → Bool} {l : List α} {k : Nat} (hk : k < l.length) (h : p l[k] = false) : l.all p = false :=
  List.all_eq_false.2 ⟨_, List.getElem_mem hk, by simp [h]⟩
theorem all_end {α : Type} {p : α → Bool} {l : List α} {k : Nat} (hk : l.length ≤ k) (hn : (l.take k).all p = true) : l.all p = true := by
  rwa [List.take_of_length_le hk] at hn

set_option maxHeartbeats 800000 in
theorem within_any (A : Option Addr) (c : Nat) (ls : List (Int × Int)) (w : World) (hl : ls.length ≤ 1000000) (hA : At w 2 A (ls.map limV)) :
    Calls Tryz.prog 195 #[.slice A ls.length c] w fun e w' => e = .returned (.bool (ls.all inLim)) ∧ Below w.heap.size w w' := by
  go_enter Tryz.func195, Tryz.ntmps195
  go_wp2
  go_loopw [7] (fun i wr => ∃ k : Nat, k ≤ ls.length ∧ i = .int .i64 k ∧ (ls.take k).all inLim = true ∧ Below w.heap.size w wr) (fun i _ => ls.length - (intOf i).toNat)
  case atStart => exact ⟨0, Nat.zero_le _, rfl, rfl, Below.refl _ _⟩
  case round =>
    obtain ⟨k, hk, rfl, hn, hB⟩ := hrel
    by_cases hlt : k < ls.length
    · obtain ⟨b, off, rfl, hb, hc⟩ := (hA.below hB).getD (k := k) (by simpa using hlt)
      have hc' : ∀ j u, (limV ls[k])[j]? = some u → wr.cell? ⟨b, off + k * 2 + j, none⟩ = some u := fun j u hu => hc j u (by simpa using hu)
      have hr0 := range_new wr (limV ls[k]) 252 0 _ rfl
      have hr1 := range_new wr (limV ls[k]) 252 1 _ rfl
      have hB1 := hB.alloc hB.size (.cells (limV ls[k]).toArray 252)
      by_cases h : inLim ls[k] = true
      · have HS := Lib.hid (all_step hlt hn h)
        simp only [inLim, okN, Bool.and_eq_true, decide_eq_true_eq] at h
        obtain ⟨h1, h2⟩ := h
        clear hc hn
        go_wp2_with (first
          | (refine wpList_load_mid (by rfl) 252 _ (by rfl) _ _ (by rfl) _ _ (by exact hc') Tryz.underlying252 (by rfl) (by kernel_rfl) ?_)
          | (refine wpList_new_struct (by rfl) (by rfl) 252 (by rfl) _ _ (by rfl) (limV ls[k]) infoLimit (by rfl) (by rfl) (limV_one _) (by rfl) (by rfl) ?_)
          | fail)
        go_roundw
        case rel => exact ⟨k + 1, by omega, by go_num, HS.out, hB1⟩
        case measure => simp [intOf]; omega
      · rw [Bool.not_eq_true] at h
        have HS := Lib.hid (all_hit hlt h)
        simp only [inLim, okN, Bool.and_eq_false_iff, decide_eq_false_iff_not] at h
        clear hc hn
        by_cases h0 : ls[k].1 < 0
        · go_wp2_with (first
            | (refine wpList_load_mid (by rfl) 252 _ (by rfl) _ _ (by rfl) _ _ (by exact hc') Tryz.underlying252 (by rfl) (by kernel_rfl) ?_)
            | (refine wpList_new_struct (by rfl) (by rfl) 252 (by rfl) _ _ (by rfl) (limV ls[k]) infoLimit (by rfl) (by rfl) (limV_one _) (by rfl) (by rfl) ?_)
            | fail)
          go_ret
          exact ⟨ret_bool HS.out.symm, hB1⟩
        · have h2 : ls[k].2 < ls[k].1 := by rcases h with h | h <;> omega
          go_wp2_with (first
            | (refine wpList_load_mid (by rfl) 252 _ (by rfl) _ _ (by rfl) _ _ (by exact hc') Tryz.underlying252 (by rfl) (by kernel_rfl) ?_)
            | (refine wpList_new_struct (by rfl) (by rfl) 252 (by rfl) _ _ (by rfl) (limV ls[k]) infoLimit (by rfl) (by rfl) (limV_one _) (by rfl) (by rfl) ?_)
            | fail)
          go_ret
          exact ⟨ret_bool HS.out.symm, hB1⟩
    · have HE := Lib.hid (all_end (by omega) hn)
      clear hn hA
      go_wp2
      go_ret
      exact ⟨ret_bool HE.out.symm, hB⟩

set_option maxHeartbeats 800000 in
theorem option_any (o : Opt) (most : Int) (w : World) :
    Calls Tryz.prog 179 #[.agg o.vals.toArray, .int .i64 most] w fun e w' => e = .returned (.bool (o.ok most)) ∧ Below w.heap.size w w' := by
  have hr := range_new w o.vals 32
  have hc0 := hr 0 _ rfl
  have hc1 := hr 1 _ rfl
  have hB0 : Below w.heap.size w (w.alloc (.cells o.vals.toArray 32)) := (Below.refl _ _).alloc (Nat.le_refl _) _
  clear hr
  obtain ⟨is, n⟩ := o
  unfold Opt.vals at *
  cases is
  · go_enter Tryz.func179, Tryz.ntmps179
    go_wp2
    go_ret
    exact ⟨rfl, hB0⟩
  · have hA : At ((w.alloc (.cells #[.bool true, .int .i64 n] 32)).alloc (.cells #[.int .i64 n, .int .i64 most] 252)) 2 (some ⟨w.heap.size + 1, 0, none⟩) [limV (n, most)] := At.fresh _ _ _ _ _ (by simp [limV]) (by simp)
    have HA := Lib.hid hA
    clear hA
    have hB1 := hB0.alloc hB0.size (.cells #[.int .i64 n, .int .i64 most] 252)
    go_enter Tryz.func179, Tryz.ntmps179
    go_wp2_with fail
    refine (within_any (some ⟨w.heap.size + 1, 0, none⟩) 1 [(n, most)] _ (by simp) HA.out).mono ?_
    rintro e w2 ⟨rfl, hb⟩
    have HB := Lib.hid (below_then hB1 hb)
    clear hb
    go_wp2
    go_ret
    exact ⟨ret_bool (by simp [Opt.ok, inLim]), HB.out⟩

theorem refIn_any (n most : Int) (w : World) :
    Calls Tryz.prog 156 #[.int .i64 n, .int .i64 most] w fun e w' => e = .returned (.bool (okN n most)) ∧ w = w' := by
  by_cases h : 0 ≤ n
  · have HS := Lib.hid (show okN n most = decide (n ≤ most) by simp [okN, h])
    go_enter Tryz.func156, Tryz.ntmps156
    go_wp2
    go_ret
    exact ⟨ret_bool HS.out.symm, rfl⟩
  · have HS := Lib.hid (show okN n most = false by simp [okN]; omega)
    go_enter Tryz.func156, Tryz.ntmps156
    go_wp2
    go_ret
    exact ⟨ret_bool HS.out.symm, rfl⟩

set_option maxHeartbeats 800000 in
theorem refOption_any (o : Opt) (most : Int) (w : World) :
    Calls Tryz.prog 114 #[.agg o.vals.toArray, .int .i64 most] w fun e w' => e = .returned (.bool (o.ok most)) ∧ Below w.heap.size w w' := by
  have hr := range_new w o.vals 32
  have hc0 := hr 0 _ rfl
  have hc1 := hr 1 _ rfl
  have hB0 : Below w.heap.size w (w.alloc (.cells o.vals.toArray 32)) := (Below.refl _ _).alloc (Nat.le_refl _) _
  clear hr
  obtain ⟨is, n⟩ := o
  unfold Opt.vals at *
  cases is
  · go_enter Tryz.func114, Tryz.ntmps114
    go_wp2
    go_ret
    exact ⟨rfl, hB0⟩
  · go_enter Tryz.func114, Tryz.ntmps114
    go_wp2_with fail
    refine (refIn_any n most _).mono ?_
    rintro e w2 ⟨rfl, rfl⟩
    go_wp2
    go_ret
    exact ⟨rfl, hB0⟩

end Go.Proofs.YtfjflkmhhbhceaaGreatDoor

/-
  Layer 5, walks: what may be set, by the program and by the reference; whether nothing is to be set. No condition.
-/
namespace Go.Proofs.YtfjflkmhhbhceaaGreatDoor
open Go.RowKit
attribute [local go_sem ↓] Go.wp_at_zero Go.wp_at_succ

theorem ldOpt {ρ : Operand → Value} {w : World} {dst : Option Tmp} {ty : TypeId} {pos : String} {after : Array Edge} {g : Option (Nat × Bool)} {x : Operand} (h : (rowAt w 2 (ρ x)).isSome = true) :
    (execOp ρ ⟨dst, .load 32 x, ty, pos, after, g⟩).run Tryz.prog w = .ok (.value (.agg ((rowAt w 2 (ρ x)).getD #[]))) w := ex_load 32 2 Tryz.underlying32 rfl (by kernel_rfl) h
theorem ldSet {ρ : Operand → Value} {w : World} {dst : Option Tmp} {ty : TypeId} {pos : String} {after : Array Edge} {g : Option (Nat × Bool)} {x : Operand} (h : (rowAt w 10 (ρ x)).isSome = true) :
    (execOp ρ ⟨dst, .load 34 x, ty, pos, after, g⟩).run Tryz.prog w = .ok (.value (.agg ((rowAt w 10 (ρ x)).getD #[]))) w := ex_load 34 10 Tryz.underlying34 rfl (by kernel_rfl) h
attribute [local go_sem ↓] ldOpt ldSet

attribute [local go_sem] rowAt_ptr rowOf_drew rowOf_drewN

theorem settRows {w : World} {g : Nat} {s : Sett} (h : Blk w g 34 s.vals) :
    rowOf w g 0 10 = some s.vals.toArray ∧ rowOf w g 0 2 = some s.mode.vals.toArray ∧ rowOf w g 2 2 = some s.uid.vals.toArray ∧ rowOf w g 4 2 = some s.gid.vals.toArray ∧ rowOf w g 6 2 = some s.size.vals.toArray ∧ rowOf w g 8 2 = some s.time.vals.toArray :=
  ⟨h.row 0 10 (by simp [Sett.len]), h.row 0 2 (by simp [Sett.len]), h.row 2 2 (by simp [Sett.len]), h.row 4 2 (by simp [Sett.len]), h.row 6 2 (by simp [Sett.len]), h.row 8 2 (by simp [Sett.len])⟩

set_option maxHeartbeats 1600000 in
theorem set_any (s : Sett) (w : World) :
    Calls Tryz.prog 157 #[.agg s.vals.toArray] w fun e w' => e = .returned (.bool s.ok) ∧ Below w.heap.size w w' := by
  have hb0 := Blk.new w 34 s.vals
  have hB0 : Below w.heap.size w (w.alloc (.cells s.vals.toArray 34)) := (Below.refl _ _).alloc (Nat.le_refl _) _
  obtain ⟨-, r0, -⟩ := settRows hb0
  go_enter Tryz.func157, Tryz.ntmps157
  go_wp2_with fail
  generalize w.alloc (.cells s.vals.toArray 34) = w0 at *
  refine (option_any s.mode 4095 _).mono ?_
  rintro e w1 ⟨rfl, hb⟩
  have hb1 := hb0.stays hb
  have hB1 := below_then hB0 hb
  obtain ⟨-, -, r1, -⟩ := settRows hb1
  clear hb r0 hb0 hB0
  generalize h0 : s.mode.ok 4095 = b0
  cases b0
  · have HS := Lib.hid (show s.ok = false by simp [Sett.ok, h0])
    go_wp2
    go_ret
    exact ⟨ret_bool HS.out.symm, hB1⟩
  have H0 := Lib.hid h0
  clear h0
  go_wp2_with fail
  refine (option_any s.uid 4294967295 _).mono ?_
  rintro e w2 ⟨rfl, hb⟩
  have hb2 := hb1.stays hb
  have hB2 := below_then hB1 hb
  obtain ⟨-, -, -, r2, -⟩ := settRows hb2
  clear hb r1 hb1 hB1
  generalize h1 : s.uid.ok 4294967295 = b1
  cases b1
  · have HS := Lib.hid (show s.ok = false by simp [Sett.ok, h1])
    go_wp2
    go_ret
    exact ⟨ret_bool HS.out.symm, hB2⟩
  have H1 := Lib.hid h1
  clear h1
  go_wp2_with fail
  refine (option_any s.gid 4294967295 _).mono ?_
  rintro e w3 ⟨rfl, hb⟩
  have hb3 := hb2.stays hb
  have hB3 := below_then hB2 hb
  obtain ⟨-, -, -, -, r3, -⟩ := settRows hb3
  clear hb r2 hb2 hB2
  generalize h2 : s.gid.ok 4294967295 = b2
  cases b2
  · have HS := Lib.hid (show s.ok = false by simp [Sett.ok, h2])
    go_wp2
    go_ret
    exact ⟨ret_bool HS.out.symm, hB3⟩
  have H2 := Lib.hid h2
  clear h2
  go_wp2_with fail
  refine (option_any s.size 9223372036854775807 _).mono ?_
  rintro e w4 ⟨rfl, hb⟩
  have hb4 := hb3.stays hb
  have hB4 := below_then hB3 hb
  obtain ⟨-, -, -, -, -, r4⟩ := settRows hb4
  clear hb r3 hb3 hB3
  generalize h3 : s.size.ok 9223372036854775807 = b3
  cases b3
  · have HS := Lib.hid (show s.ok = false by simp [Sett.ok, h3])
    go_wp2
    go_ret
    exact ⟨ret_bool HS.out.symm, hB4⟩
  have H3 := Lib.hid h3
  clear h3
  go_wp2_with fail
  refine (option_any s.time 9223372036854775807 _).mono ?_
  rintro e w5 ⟨rfl, hb⟩
  have hB5 := below_then hB4 hb
  go_wp2
  go_ret
  exact ⟨ret_bool (by simp [Sett.ok, H0.out, H1.out, H2.out, H3.out]), hB5⟩

set_option maxHeartbeats 1600000 in
theorem refSet_any (s : Sett) (w : World) :
    Calls Tryz.prog 111 #[.agg s.vals.toArray] w fun e w' => e = .returned (.bool s.ok) ∧ Below w.heap.size w w' := by
  have hb0 := Blk.new w 34 s.vals
  have hB0 : Below w.heap.size w (w.alloc (.cells s.vals.toArray 34)) := (Below.refl _ _).alloc (Nat.le_refl _) _
  obtain ⟨-, r0, -⟩ := settRows hb0
  go_enter Tryz.func111, Tryz.ntmps111
  go_wp2_with fail
  generalize w.alloc (.cells s.vals.toArray 34) = w0 at *
  refine (refOption_any s.mode 4095 _).mono ?_
  rintro e w1 ⟨rfl, hb⟩
  have hb1 := hb0.stays hb
  have hB1 := below_then hB0 hb
  obtain ⟨-, -, r1, -⟩ := settRows hb1
  clear hb r0 hb0 hB0
  generalize h0 : s.mode.ok 4095 = b0
  cases b0
  · have HS := Lib.hid (show s.ok = false by simp [Sett.ok, h0])
    go_wp2
    go_ret
    exact ⟨ret_bool HS.out.symm, hB1⟩
  have H0 := Lib.hid h0
  clear h0
  go_wp2_with fail
  refine (refOption_any s.uid 4294967295 _).mono ?_
  rintro e w2 ⟨rfl, hb⟩
  have hb2 := hb1.stays hb
  have hB2 := below_then hB1 hb
  obtain ⟨-, -, -, r2, -⟩ := settRows hb2
  clear hb r1 hb1 hB1
  generalize h1 : s.uid.ok 4294967295 = b1
  cases b1
  · have HS := Lib.hid (show s.ok = false by simp [Sett.ok, h1])
    go_wp2
    go_ret
    exact ⟨ret_bool HS.out.symm, hB2⟩
  have H1 := Lib.hid h1
  clear h1
  go_wp2_with fail
  refine (refOption_any s.gid 4294967295 _).mono ?_
  rintro e w3 ⟨rfl, hb⟩
  have hb3 := hb2.stays hb
  have hB3 := below_then hB2 hb
  obtain ⟨-, -, -, -, r3, -⟩ := settRows hb3
  clear hb r2 hb2 hB2
  generalize h2 : s.gid.ok 4294967295 = b2
  cases b2
  · have HS := Lib.hid (show s.ok = false by simp [Sett.ok, h2])
    go_wp2
    go_ret
    exact ⟨ret_bool HS.out.symm, hB3⟩
  have H2 := Lib.hid h2
  clear h2
  go_wp2_with fail
  refine (refOption_any s.size 9223372036854775807 _).mono ?_
  rintro e w4 ⟨rfl, hb⟩
  have hb4 := hb3.stays hb
  have hB4 := below_then hB3 hb
  obtain ⟨-, -, -, -, -, r4⟩ := settRows hb4
  clear hb r3 hb3 hB3
  generalize h3 : s.size.ok 9223372036854775807 = b3
  cases b3
  · have HS := Lib.hid (show s.ok = false by simp [Sett.ok, h3])
    go_wp2
    go_ret
    exact ⟨ret_bool HS.out.symm, hB4⟩
  have H3 := Lib.hid h3
  clear h3
  go_wp2_with fail
  refine (refOption_any s.time 9223372036854775807 _).mono ?_
  rintro e w5 ⟨rfl, hb⟩
  have hB5 := below_then hB4 hb
  go_wp2
  go_ret
  exact ⟨ret_bool (by simp [Sett.ok, H0.out, H1.out, H2.out, H3.out]), hB5⟩

set_option maxHeartbeats 800000 in
theorem checkSet_any (s : Sett) (w : World) :
    Calls Tryz.prog 122 #[.agg s.vals.toArray] w fun e w' => e = .returned (.int .i64 (form s.ok)) ∧ Below w.heap.size w w' := by
  have hb0 := Blk.new w 34 s.vals
  have hB0 : Below w.heap.size w (w.alloc (.cells s.vals.toArray 34)) := (Below.refl _ _).alloc (Nat.le_refl _) _
  obtain ⟨r0, -⟩ := settRows hb0
  go_enter Tryz.func122, Tryz.ntmps122
  go_wp2_with fail
  refine (set_any s _).mono ?_
  rintro e w1 ⟨rfl, hb⟩
  have hB1 := below_then hB0 hb
  clear hb hb0 r0 hB0
  generalize h : s.ok = b
  have H := Lib.hid h
  clear h
  cases b
  all_goals
    go_wp2
    go_ret
    exact ⟨ret_int (by rw [H.out]; rfl), hB1⟩

end Go.Proofs.YtfjflkmhhbhceaaGreatDoor


/-
  Layer 1: a thing that is written or read, its cells, its bytes, and what is wrong with it. No condition.
-/
namespace Go.Proofs.YtfjflkmhhbhceaaGreatDoor
open Go.RowKit

structure Thing where
  kind : Int
  n : Int
  is : Bool
  s : List UInt8
def Thing.vals (x : Thing) : List Value := [.int .i64 x.kind, .int .i64 x.n, .bool x.is, .string (bs x.s)]
theorem Thing.len (x : Thing) : x.vals.length = 4 := rfl
theorem Thing.one (x : Thing) : ∀ v ∈ x.vals, v.oneCell' = true := by
  intro v hv
  unfold Thing.vals at hv
  simp only [List.mem_cons, List.not_mem_nil, or_false] at hv
  rcases hv with rfl | rfl | rfl | rfl <;> rfl
def Thing.good (x : Thing) : Prop := (Lit.int .i64 x.kind).wf = true ∧ (Lit.int .i64 x.n).wf = true ∧ x.s.length ≤ maxLen
instance : Inhabited Thing := ⟨⟨0, 0, false, []⟩⟩

def Thing.err (t : Thing) : Int :=
  if t.kind = 1 then (if t.n < 0 ∨ 4294967295 < t.n then 3 else 0)
  else if t.kind = 2 then (if t.n < 0 then 3 else 0)
  else if t.kind = 6 then (if t.is = true ∧ t.n < 0 then 3 else 0)
  else 0
def Thing.bytes (t : Thing) : List UInt8 :=
  if t.kind = 1 then (if t.n < 0 ∨ 4294967295 < t.n then [] else num t.n.toNat 4)
  else if t.kind = 2 then (if t.n < 0 then [] else num t.n.toNat 8)
  else if t.kind = 3 then truth t.is
  else if t.kind = 4 then filled t.s
  else if t.kind = 5 then opq t.s
  else if t.kind = 6 then (if t.is = true ∧ t.n < 0 then [] else optB t.is t.n)
  else []
theorem Thing.bytes_len (t : Thing) : t.bytes.length ≤ t.s.length + 16 := by
  have hp := padn_lt t.s.length
  unfold Thing.bytes truth optB truth opq
  repeat' split
  all_goals simp [num_len, filled_len]
  all_goals omega

/-- a new writer -/
theorem Wr.fresh (w : World) : Wr (w.alloc (.cells #[.slice none 0 0] 195)) w.heap.size (.slice none 0 0) [] := ⟨Blk.new _ _ _, World.ownsRow_nil _ _ _ _⟩
theorem Moved.below {g : Nat} {sv : Value} {l : List UInt8} {B : Nat} {w w' : World} (h : Moved g sv l w w') (hg : B ≤ g) (hs : ∀ k, sv.ownBlock = some k → B ≤ k) (hB : B ≤ w.heap.size) : Below B w w' := by
  obtain ⟨_, _, _, ht⟩ := h
  refine ht.below (fun k _ hf => ?_) hB
  rcases hf with rfl | hf
  · exact hg
  · exact hs k hf
end Go.Proofs.YtfjflkmhhbhceaaGreatDoor


/-
  How what came in is read: a struct's fields, a slice's rows; and the last step of every law's row. No condition.
-/
namespace Go.Proofs.YtfjflkmhhbhceaaGreatDoor
open Go.ChangeShapes Go.WideShapes Go.ChangeAt Go.RowKit Go.Deep

section
variable {H : Type} {enc : TypeId × Value → H} {P : Program} {w : World} {base : Nat} {spare : Nat → Bool} {held : Bool}

/-- one field of a struct that was read: its own cells' reading -/
theorem field_of {t : TypeId} {fs : Array Field} {fuel : Nat} {cs : List Value} {x : DataW H × List MemPlace} (ht : P.underlying t = some (.struct fs)) (h : DataW.trod enc P w base spare held fuel t cs = some x)
    (i : Nat) (f : Field) (hi : fs[i]? = some f) : ∃ n y, DataW.trod enc P w base spare held n f.type ((cs.drop f.offset).take (P.cellsOf f.type)) = some y := by
  obtain ⟨xs, n, _, _, _, hlen, hf⟩ := DataW.trod_struct ht h
  have hi' : i < xs.length := by rw [hlen]; exact (Array.getElem?_eq_some_iff.1 hi).1
  exact ⟨n, xs[i], (hf i f hi).trans (List.getElem?_eq_getElem hi')⟩
theorem len_of {t : TypeId} {fs : Array Field} {fuel : Nat} {cs : List Value} {x : DataW H × List MemPlace} (ht : P.underlying t = some (.struct fs)) (h : DataW.trod enc P w base spare held fuel t cs = some x) : cs.length = P.cellsOf t := by
  obtain ⟨xs, n, _, _, hl, _, _⟩ := DataW.trod_struct ht h
  exact hl
theorem drop_take {α : Type} {cs p : List α} {o k : Nat} (h : (cs.drop o).take k = p) : cs.drop o = p ++ cs.drop (o + k) := by
  rw [← h, ← List.drop_drop, List.take_append_drop]
theorem int_field {t e : TypeId} {fs : Array Field} {fuel : Nat} {cs : List Value} {x : DataW H × List MemPlace} (ht : P.underlying t = some (.struct fs)) (h : DataW.trod enc P w base spare held fuel t cs = some x)
    (i o : Nat) (f : Field) (hi : fs[i]? = some f) (hT : f.type = e) (ho : f.offset = o) (hc : P.cellsOf e = 1) {k : IntKind} (hk : P.underlying e = some (.int k)) : ∃ z, cs.drop o = .int k z :: cs.drop (o + 1) ∧ (Lit.int k z).wf = true := by
  obtain ⟨n, y, hy⟩ := field_of ht h i f hi
  subst hT ho
  rw [hc] at hy
  obtain ⟨z, hz, _, hw⟩ := DataW.trod_int hk hy
  exact ⟨z, drop_take hz, hw⟩
theorem string_field {t e : TypeId} {fs : Array Field} {fuel : Nat} {cs : List Value} {x : DataW H × List MemPlace} (ht : P.underlying t = some (.struct fs)) (h : DataW.trod enc P w base spare held fuel t cs = some x)
    (i o : Nat) (f : Field) (hi : fs[i]? = some f) (hT : f.type = e) (ho : f.offset = o) (hc : P.cellsOf e = 1) (hk : P.underlying e = some .string) : ∃ z : ByteArray, cs.drop o = .string z :: cs.drop (o + 1) ∧ z.size ≤ maxLen := by
  obtain ⟨n, y, hy⟩ := field_of ht h i f hi
  subst hT ho
  rw [hc] at hy
  obtain ⟨z, hz, _, hm⟩ := DataW.trod_string hk hy
  exact ⟨z, drop_take hz, hm⟩
theorem slice_len {t e : TypeId} {fuel : Nat} {A : Option Addr} {n c : Nat} {y : DataW H × List MemPlace} (ht : P.underlying t = some (.slice e)) (h : DataW.trod enc P w base spare held fuel t [.slice A n c] = some y) : n ≤ maxLen := by
  rcases open_slice ht h with ⟨hcs, _⟩ | ⟨a, len, cap, _, _, _, _, hcs, _, hl, hm, _⟩
  · simp only [List.cons.injEq, Value.slice.injEq, and_true] at hcs
    obtain ⟨rfl, rfl, rfl⟩ := hcs
    exact Nat.zero_le _
  · simp only [List.cons.injEq, Value.slice.injEq, and_true] at hcs
    obtain ⟨rfl, rfl, rfl⟩ := hcs
    exact Nat.le_trans hl hm
/-- a slice of elements of sz cells, each of which 'op' reads: the rows -/
theorem rows_of {α : Type} [Inhabited α] {t e : TypeId} {fuel : Nat} {A : Option Addr} {n c sz : Nat} {y : DataW H × List MemPlace} (ht : P.underlying t = some (.slice e)) (hc : P.cellsOf e = sz) (h0 : 0 < sz) (vals : α → List Value) (good : α → Prop) (hlt : ∀ p ∈ y.2, p.block < w.heap.size)
    (hop : ∀ (m : Nat) (cs : List Value) (x : DataW H × List MemPlace), (∀ p ∈ x.2, p.block < w.heap.size) → DataW.trod enc P w base spare held m e cs = some x → ∃ a : α, cs = vals a ∧ good a)
    (h : DataW.trod enc P w base spare held fuel t [.slice A n c] = some y) : ∃ l : List α, n = l.length ∧ At w sz A (l.map vals) ∧ ∀ a ∈ l, good a := by
  rcases open_slice ht h with ⟨hcs, _⟩ | ⟨a, len, cap, m, n', D, Pl, hcs, _, hl, hm, hmm, hy, hi⟩
  · simp only [List.cons.injEq, Value.slice.injEq, and_true] at hcs
    obtain ⟨rfl, rfl, rfl⟩ := hcs
    exact ⟨[], rfl, At.nil, fun a ha => by simp at ha⟩
  · simp only [List.cons.injEq, Value.slice.injEq, and_true] at hcs
    obtain ⟨rfl, rfl, rfl⟩ := hcs
    have hle : n ≤ m := by rw [hmm]; split <;> omega
    have hpl : ∀ i, i < m → ∀ p ∈ Pl i, p.block < w.heap.size := fun i hi p hp => hlt p (by
      rw [hy]; exact List.mem_append_right _ (List.mem_flatMap.2 ⟨i, List.mem_range.2 hi, hp⟩))
    obtain ⟨f, hf⟩ := choose_lt (α := α) (n := n) (p := fun i b => w.cells? base (a.add (i * sz)) sz = some (vals b) ∧ good b) (fun i hin => by
      obtain ⟨cs', h1, h2⟩ := hi i (by omega)
      obtain ⟨b, rfl, hg⟩ := hop _ _ _ (hpl i (by omega)) h2
      rw [hc] at h1
      exact ⟨b, h1, hg⟩)
    refine ⟨(List.range n).map f, by simp, ?_, fun b hb => ?_⟩
    · intro i r hr
      simp only [List.map_map, List.getElem?_map, Option.map_eq_some_iff] at hr
      obtain ⟨j, hj, rfl⟩ := hr
      have hj' : i < n ∧ j = i := by
        rcases Nat.lt_or_ge i n with h | h
        · rw [List.getElem?_range h] at hj; exact ⟨h, by simpa using hj.symm⟩
        · rw [List.getElem?_eq_none (by simpa using h)] at hj; cases hj
      obtain ⟨hin, rfl⟩ := hj'
      obtain ⟨h1, _⟩ := hf j hin
      obtain ⟨hb0, hlen, hcell⟩ := World.cells?_some h1
      have hx0 := hcell 0 (by omega)
      obtain ⟨ab, ao, asp⟩ := a
      have hsp : asp = none ∨ 0 < j * sz := by
        rcases Nat.eq_zero_or_pos (j * sz) with h | h
        · left
          rw [h] at hx0
          simp only [Addr.add, if_true] at hx0
          have := World.cell?_spot (hx0.trans (List.getElem?_eq_getElem (by omega)))
          simpa using this
        · exact .inr h
      -- the slice's own address has no spot: its first element shows it
      have hsp0 : asp = none := by
        obtain ⟨h2, _⟩ := hf 0 (by omega)
        obtain ⟨_, hlen2, hcell2⟩ := World.cells?_some h2
        have hx := hcell2 0 (by omega)
        rw [Nat.zero_mul] at hx
        simp only [Addr.add, if_true] at hx
        have := World.cell?_spot (hx.trans (List.getElem?_eq_getElem (by omega)))
        simpa using this
      subst hsp0
      refine ⟨ab, ao, rfl, ?_, fun k u hu => ?_⟩
      · have hx := hx0.trans (List.getElem?_eq_getElem (by omega))
        rw [Addr.add_mid, Addr.add_mid] at hx
        exact block_lt_of_cell hx
      · have hk : k < sz := by rw [← hlen]; exact (List.getElem?_eq_some_iff.1 hu).1
        have := hcell k hk
        rw [Addr.add_mid, Addr.add_mid] at this
        exact this.trans hu
    · obtain ⟨i, hi', rfl⟩ := List.mem_map.1 hb
      exact (hf i (by simpa using hi')).2
end

section
variable {H : Type} {enc : TypeId × Value → H} {P : Program}
theorem trodAll_below (hl : laidOutB P = true) {W W' : World} (hb : Below W.heap.size W W') : ∀ {ts : List TypeId} {vs : List Value} {ds : List (DataW H)} {ps : List MemPlace}, (∀ t ∈ ts, P.readableRec t = true ∧ t < P.types.size) →
    DataW.TrodAll enc P W 0 (fun _ => true) true ts vs ds ps → DataW.TrodAll enc P W' 0 (fun b => decide (b < W.heap.size)) true ts vs ds ps := by
  intro ts
  induction ts with
  | nil =>
    intro vs ds ps _ h
    obtain ⟨rfl, rfl, rfl⟩ := trodAll_nil h
    exact trodAll_mk0
  | cons t ts ih =>
    intro vs ds ps ht h
    obtain ⟨v, vs', d, ds', p, q, rfl, rfl, rfl, h1, h2⟩ := trodAll_cons h
    have hr := ht t (by simp)
    have lt1 : ∀ x ∈ p, x.block < W.heap.size := by obtain ⟨m, hm⟩ := h1; exact DataW.trod_lt m _ _ _ hm
    exact trodAll_cons_mk (Below.trod hl hr.1 hr.2 h1 hb lt1) (ih (fun x hx => ht x (by simp [hx])) h2)
/-- THE LAST STEP OF EVERY LAW: true was returned, all that was there is as it was -/
theorem law_post {f : Func} {s : ChangeSpec} {W W' : World} {args : Array Value} {ds gs : List (DataW H)} {before : List MemPlace} {tb : TypeId} (hl : laidOutB P = true) (hv : s.vars = [])
    (hW : DataW.Whole enc P f.params.toList s.vars false W args.toList ds gs before) (ht : ∀ t ∈ f.params.toList, P.readableRec t = true ∧ t < P.types.size) (hb : Below W.heap.size W W')
    (hrt : f.resultTypes = #[tb]) (htb : P.underlying tb = some .bool) (hr : (s.fn H (ds ++ gs)).results = [.lit (.bool true)]) (ha : (s.fn H (ds ++ gs)).args = ds) (hvs : (s.fn H (ds ++ gs)).vars = []) :
    s.post enc P f false true false false W args (.bool true) W' := by
  have hW' := hW
  obtain ⟨p, q, hA, hV, rfl, hfz, hnd⟩ := hW
  refine ⟨ds, gs, p ++ q, [], p, [], hW', ?_, ?_, ?_, hb.frame _, fun h => by cases h⟩
  · rw [hr, hrt]; exact trodAll_mk1 (shut_bool htb _)
  · rw [ha]; exact trodAll_below hl hb ht hA
  · rw [hvs, hv]; rfl
end
end Go.Proofs.YtfjflkmhhbhceaaGreatDoor


/-
  How attributes, and what is to be set, that came in are read (written by wip/tools/structs.py). No condition.
-/
namespace Go.Proofs.YtfjflkmhhbhceaaGreatDoor
open Go.ChangeShapes Go.WideShapes Go.ChangeAt Go.RowKit Go.Deep
end Go.Proofs.YtfjflkmhhbhceaaGreatDoor


/-
  How calls, entries, changes and caches that came in are read (written by wip/tools/structs.py; the cache by hand). No condition.
-/
namespace Go.Proofs.YtfjflkmhhbhceaaGreatDoor
open Go.ChangeShapes Go.WideShapes Go.ChangeAt Go.RowKit Go.Deep
section
variable {H : Type} {enc : TypeId × Value → H} {w : World} {base : Nat} {spare : Nat → Bool} {held : Bool} {fuel : Nat} {cs : List Value} {x : DataW H × List MemPlace}

instance : Inhabited Held := ⟨⟨0, 0, []⟩⟩
instance : Inhabited Cached := ⟨⟨[], ⟨0, 0, 0, 0, 0, 0, 0, 0, 0, 0⟩⟩⟩
instance : Inhabited Known := ⟨⟨[], [], []⟩⟩
instance : Inhabited Placed := ⟨⟨[], 0, 0⟩⟩
instance : Inhabited Change := ⟨⟨0, 0, 0, [], [], [], ⟨0, 0, 0, 0, 0, 0, 0, 0, 0, 0⟩, 0, 0⟩⟩
instance : Inhabited Entry := ⟨⟨0, [], 0, ⟨false, ⟨0, 0, 0, 0, 0, 0, 0, 0, 0, 0⟩⟩, []⟩⟩

/-- a cache: the slices' headers, and what is in them -/
structure Cch where
  ha : Option Addr
  hc : Nat
  hs : List Held
  fa : Option Addr
  fc : Nat
  fs : List Cached
  na : Option Addr
  nc : Nat
  ns : List Known
  ba : Option Addr
  bc : Nat
  bl : List Placed
def Cch.vals (x : Cch) : List Value := [.slice x.ha x.hs.length x.hc, .slice x.fa x.fs.length x.fc, .slice x.na x.ns.length x.nc, .slice x.ba x.bl.length x.bc]
/-- what lies in memory of a cache -/
structure Cch.There (x : Cch) (w : World) : Prop where
  h : At w 3 x.ha (x.hs.map Held.vals)
  f : At w 11 x.fa (x.fs.map Cached.vals)
  n : At w 3 x.na (x.ns.map Known.vals)
  b : At w 3 x.ba (x.bl.map Placed.vals)
theorem Cch.There.below {c : Cch} {w w' : World} (h : c.There w) (hb : Below w.heap.size w w') : c.There w' := ⟨h.h.below hb, h.f.below hb, h.n.below hb, h.b.below hb⟩
end
end Go.Proofs.YtfjflkmhhbhceaaGreatDoor
