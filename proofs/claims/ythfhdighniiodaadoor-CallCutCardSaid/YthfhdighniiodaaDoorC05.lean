/-
  Plain laws of lists: a search up to a number of elements. No condition.
-/
import Derived.Test.YthfhdighniiodaaDoorC01
import Derived.Test.YthfhdighniiodaaDoorC04
import Derived.Test.YthfhdighniiodaaDoorC02
import Derived.Test.YthfhdighniiodaaDoorProg
import Derived.OpenShut
namespace Go.Proofs.YthfhdighniiodaaDoor
variable {α : Type}

theorem take_next (l : List α) (k : Nat) (hk : k < l.length) : l.take (k + 1) = l.take k ++ [l[k]] := List.take_succ_eq_append_getElem hk
/-- among the first N some one is so, or there are more than N -/
def over (p : α → Bool) (N : Nat) (l : List α) : Bool := (l.take N).any p || decide (N < l.length)
theorem over_yes {p : α → Bool} {N : Nat} {l : List α} {k : Nat} (hk : k < l.length) (h7 : k < N) (h : p l[k] = true) : over p N l = true := by
  have h1 : l[k] ∈ l.take N := by
    have : (l.take N)[k]? = some l[k] := by rw [List.getElem?_take, if_pos h7]; exact List.getElem?_eq_getElem hk
    exact List.mem_of_getElem? this
  unfold over; rw [List.any_eq_true.2 ⟨_, h1, h⟩]; rfl
theorem over_step {p : α → Bool} {l : List α} {k : Nat} (hk : k < l.length) (hn : (l.take k).any p = false) (h : p l[k] = false) : (l.take (k + 1)).any p = false := by
  rw [take_next _ _ hk, List.any_append, hn]; simp [h]
theorem over_end {p : α → Bool} {N : Nat} {l : List α} {k : Nat} (hk : k ≤ l.length) (hkN : k ≤ N) (hn : (l.take k).any p = false) (he : ¬ (k < l.length ∧ k < N)) : over p N l = decide ((N : Int) < (l.length : Int)) := by
  unfold over
  have : (l.take N).any p = false := by
    rcases Nat.lt_or_ge k N with h | h
    · rw [List.take_of_length_le (by omega)]
      rw [List.take_of_length_le (by omega)] at hn
      exact hn
    · obtain rfl : k = N := by omega
      exact hn
  rw [this, Bool.false_or]
  exact decide_eq_decide.2 (by omega)
theorem over_no {p : α → Bool} {N : Nat} {l : List α} (h : over p N l = false) : l.length ≤ N ∧ ∀ x ∈ l, p x = false := by
  unfold over at h
  rw [Bool.or_eq_false_iff] at h
  obtain ⟨h1, h2⟩ := h
  have hl : l.length ≤ N := by simpa using h2
  refine ⟨hl, fun t ht => ?_⟩
  rw [List.take_of_length_le hl] at h1
  simpa using List.any_eq_false.1 h1 t ht
end Go.Proofs.YthfhdighniiodaaDoor

/-
  Layer 5 in plain words: what attributes, and what is to be set, may be; their bytes; what becomes of them. No condition.
-/
namespace Go.Proofs.YthfhdighniiodaaDoor

def okN (n most : Int) : Bool := decide (0 ≤ n) && decide (n ≤ most)
def Opt.ok (o : Opt) (most : Int) : Bool := if o.is then okN o.n most else o.n == 0
def Sett.ok (s : Sett) : Bool := s.mode.ok 4095 && (s.uid.ok 4294967295 && (s.gid.ok 4294967295 && (s.size.ok 9223372036854775807 && s.time.ok 9223372036854775807)))
def form (b : Bool) : Int := if b then 0 else 14
def Opt.bytes (o : Opt) : List UInt8 := optB o.is o.n
def Sett.bytes (s : Sett) : List UInt8 := s.mode.bytes ++ s.uid.bytes ++ s.gid.bytes ++ s.size.bytes ++ s.time.bytes
def Sett.empty (s : Sett) : Bool := !s.mode.is && (!s.uid.is && (!s.gid.is && (!s.size.is && !s.time.is)))
def Opt.over (o : Opt) (n : Int) : Int := if o.is then o.n else n
def Attr.applied (a : Attr) (s : Sett) (now : Int) : Attr :=
  { a with mode := s.mode.over a.mode, uid := s.uid.over a.uid, gid := s.gid.over a.gid, change := if s.empty then a.change else now, time := if s.time.is then s.time.n else if s.size.is then now else a.time }
def big : Int := 9223372036854775807
def Attr.ok (a : Attr) : Bool :=
  okN a.type 7 && decide (1 ≤ a.type) && okN a.mode 4095 && okN a.nlink 4294967295 && okN a.uid 4294967295 && okN a.gid 4294967295 && okN a.id 4294967295 && decide (0 ≤ a.size) && decide (0 ≤ a.gen) && decide (0 ≤ a.change) && decide (0 ≤ a.time)
theorem Opt.ok_pos {o : Opt} {m : Int} (h : o.ok m = true) : o.is = true → 0 ≤ o.n := fun hi => by
  unfold Opt.ok okN at h
  rw [if_pos hi] at h
  simp at h
  exact h.1
theorem Sett.ok_pos {s : Sett} (h : s.ok = true) : (s.mode.is = true → 0 ≤ s.mode.n) ∧ (s.uid.is = true → 0 ≤ s.uid.n) ∧ (s.gid.is = true → 0 ≤ s.gid.n) ∧ (s.size.is = true → 0 ≤ s.size.n) ∧ (s.time.is = true → 0 ≤ s.time.n) := by
  unfold Sett.ok at h
  simp only [Bool.and_eq_true] at h
  exact ⟨Opt.ok_pos h.1, Opt.ok_pos h.2.1, Opt.ok_pos h.2.2.1, Opt.ok_pos h.2.2.2.1, Opt.ok_pos h.2.2.2.2⟩
/-- the options, in order -/
def Sett.opt (s : Sett) : Nat → Opt
  | 0 => s.mode
  | 1 => s.uid
  | 2 => s.gid
  | 3 => s.size
  | _ => s.time
def Sett.upto (s : Sett) : Nat → List UInt8
  | 0 => []
  | k + 1 => s.upto k ++ (s.opt k).bytes
theorem Sett.upto_five (s : Sett) : s.upto 5 = s.bytes := by simp [Sett.upto, Sett.opt, Sett.bytes]
theorem Opt.bytes_len (o : Opt) : o.bytes.length ≤ 12 := by
  unfold Opt.bytes optB truth
  cases o.is <;> simp [num_len]
theorem Sett.upto_len (s : Sett) (k : Nat) : (s.upto k).length ≤ 12 * k := by
  induction k with
  | zero => simp [Sett.upto]
  | succ k ih => have := (s.opt k).bytes_len; simp only [Sett.upto, List.length_append]; omega
theorem Sett.empty_not {s : Sett} {k : Nat} (hk : k < 5) (h : (s.opt k).is = true) : s.empty = false := by
  match k, hk with
  | 0, _ | 1, _ | 2, _ | 3, _ | 4, _ => simp only [Sett.opt] at h; simp [Sett.empty, h]
theorem Sett.empty_end {s : Sett} (h : ∀ j, j < 5 → (s.opt j).is = false) : s.empty = true := by
  have h0 := h 0 (by omega)
  have h1 := h 1 (by omega)
  have h2 := h 2 (by omega)
  have h3 := h 3 (by omega)
  have h4 := h 4 (by omega)
  simp only [Sett.opt] at h0 h1 h2 h3 h4
  simp [Sett.empty, h0, h1, h2, h3, h4]
theorem Sett.opt_pos {s : Sett} (h : s.ok = true) {k : Nat} (hk : k < 5) : (s.opt k).is = true → 0 ≤ (s.opt k).n := by
  obtain ⟨h0, h1, h2, h3, h4⟩ := Sett.ok_pos h
  match k, hk with
  | 0, _ => exact h0
  | 1, _ => exact h1
  | 2, _ => exact h2
  | 3, _ => exact h3
  | 4, _ => exact h4
theorem Sett.opt_good {s : Sett} (h : s.good) {k : Nat} (hk : k < 5) : (s.opt k).good := by
  obtain ⟨h0, h1, h2, h3, h4⟩ := h
  match k, hk with
  | 0, _ => exact h0
  | 1, _ => exact h1
  | 2, _ => exact h2
  | 3, _ => exact h3
  | 4, _ => exact h4
end Go.Proofs.YthfhdighniiodaaDoor


/-
  Layer 5, walks: whether options may be, by the program and by the reference. No condition.
-/
namespace Go.Proofs.YthfhdighniiodaaDoor
open Go.RowKit
attribute [local go_sem ↓] Go.wp_at_zero Go.wp_at_succ

def limV (p : Int × Int) : List Value := [.int .i64 p.1, .int .i64 p.2]
theorem limV_one (p : Int × Int) : ∀ v ∈ limV p, v.oneCell' = true := by
  intro v hv
  unfold limV at hv
  simp only [List.mem_cons, List.not_mem_nil, or_false] at hv
  rcases hv with rfl | rfl <;> rfl
theorem infoLimit : (Tryd.prog.info? 147).map (fun i => (i.zero, i.size)) = some (some (.agg #[.int .i64 0, .int .i64 0]), 2) := by kernel_rfl
def inLim (p : Int × Int) : Bool := okN p.1 p.2
theorem all_step {α : Type} {p : α → Bool} {l : List α} {k : Nat} (hk : k < l.length) (hn : (l.take k).all p = true) (h : p l[k] = true) : (l.take (k + 1)).all p = true := by
  rw [take_next _ _ hk, List.all_append, hn]; simp [h]
theorem all_hit {α : Type} {p : α → Bool} {l : List α} {k : Nat} (hk : k < l.length) (h : p l[k] = false) : l.all p = false :=
  List.all_eq_false.2 ⟨_, List.getElem_mem hk, by simp [h]⟩
theorem all_end {α : Type} {p : α → Bool} {l : List α} {k : Nat} (hk : l.length ≤ k) (hn : (l.take k).all p = true) : l.all p = true := by
  rwa [List.take_of_length_le hk] at hn

set_option maxHeartbeats 800000 in
theorem within_any (A : Option Addr) (c : Nat) (ls : List (Int × Int)) (w : World) (hl : ls.length ≤ 1000000) (hA : At w 2 A (ls.map limV)) :
    Calls Tryd.prog 122 #[.slice A ls.length c] w fun e w' => e = .returned (.bool (ls.all inLim)) ∧ Below w.heap.size w w' := by
  go_enter Tryd.func122, Tryd.ntmps122
  go_wp2
  go_loopw [7] (fun i wr => ∃ k : Nat, k ≤ ls.length ∧ i = .int .i64 k ∧ (ls.take k).all inLim = true ∧ Below w.heap.size w wr) (fun i _ => ls.length - (intOf i).toNat)
  case atStart => exact ⟨0, Nat.zero_le _, rfl, rfl, Below.refl _ _⟩
  case round =>
    obtain ⟨k, hk, rfl, hn, hB⟩ := hrel
    by_cases hlt : k < ls.length
    · obtain ⟨b, off, rfl, hb, hc⟩ := (hA.below hB).getD (k := k) (by simpa using hlt)
      have hc' : ∀ j u, (limV ls[k])[j]? = some u → wr.cell? ⟨b, off + k * 2 + j, none⟩ = some u := fun j u hu => hc j u (by simpa using hu)
      have hr0 := range_new wr (limV ls[k]) 147 0 _ rfl
      have hr1 := range_new wr (limV ls[k]) 147 1 _ rfl
      have hB1 := hB.alloc hB.size (.cells (limV ls[k]).toArray 147)
      by_cases h : inLim ls[k] = true
      · have HS := Lib.hid (all_step hlt hn h)
        simp only [inLim, okN, Bool.and_eq_true, decide_eq_true_eq] at h
        obtain ⟨h1, h2⟩ := h
        clear hc hn
        go_wp2_with (first
          | (refine wpList_load_mid (by rfl) 147 _ (by rfl) _ _ (by rfl) _ _ (by exact hc') Tryd.underlying147 (by rfl) (by kernel_rfl) ?_)
          | (refine wpList_new_struct (by rfl) (by rfl) 147 (by rfl) _ _ (by rfl) (limV ls[k]) infoLimit (by rfl) (by rfl) (limV_one _) (by rfl) (by rfl) ?_)
          | fail)
        go_roundw
        case rel => exact ⟨k + 1, by omega, by go_num, HS.out, hB1⟩
        case measure => simp [intOf]; omega
      · rw [Bool.not_eq_true] at h
        have HS := Lib.hid (all_hit hlt h)
        simp only [inLim, okN, Bool.and_eq_false_iff, decide_eq_false_iff_not] at h
        clear hc hn
        by_cases h0 : ls[k].1 < 0
        · go_wp2_with (first
            | (refine wpList_load_mid (by rfl) 147 _ (by rfl) _ _ (by rfl) _ _ (by exact hc') Tryd.underlying147 (by rfl) (by kernel_rfl) ?_)
            | (refine wpList_new_struct (by rfl) (by rfl) 147 (by rfl) _ _ (by rfl) (limV ls[k]) infoLimit (by rfl) (by rfl) (limV_one _) (by rfl) (by rfl) ?_)
            | fail)
          go_ret
          exact ⟨ret_bool HS.out.symm, hB1⟩
        · have h2 : ls[k].2 < ls[k].1 := by rcases h with h | h <;> omega
          go_wp2_with (first
            | (refine wpList_load_mid (by rfl) 147 _ (by rfl) _ _ (by rfl) _ _ (by exact hc') Tryd.underlying147 (by rfl) (by kernel_rfl) ?_)
            | (refine wpList_new_struct (by rfl) (by rfl) 147 (by rfl) _ _ (by rfl) (limV ls[k]) infoLimit (by rfl) (by rfl) (limV_one _) (by rfl) (by rfl) ?_)
            | fail)
          go_ret
          exact ⟨ret_bool HS.out.symm, hB1⟩
    · have HE := Lib.hid (all_end (by omega) hn)
      clear hn hA
      go_wp2
      go_ret
      exact ⟨ret_bool HE.out.symm, hB⟩

set_option maxHeartbeats 800000 in
theorem option_any (o : Opt) (most : Int) (w : World) :
    Calls Tryd.prog 139 #[.agg o.vals.toArray, .int .i64 most] w fun e w' => e = .returned (.bool (o.ok most)) ∧ Below w.heap.size w w' := by
  have hr := range_new w o.vals 53
  have hc0 := hr 0 _ rfl
  have hc1 := hr 1 _ rfl
  have hB0 : Below w.heap.size w (w.alloc (.cells o.vals.toArray 53)) := (Below.refl _ _).alloc (Nat.le_refl _) _
  clear hr
  obtain ⟨is, n⟩ := o
  unfold Opt.vals at *
  cases is
  · go_enter Tryd.func139, Tryd.ntmps139
    go_wp2
    go_ret
    exact ⟨rfl, hB0⟩
  · have hA : At ((w.alloc (.cells #[.bool true, .int .i64 n] 53)).alloc (.cells #[.int .i64 n, .int .i64 most] 147)) 2 (some ⟨w.heap.size + 1, 0, none⟩) [limV (n, most)] := At.fresh _ _ _ _ _ (by simp [limV]) (by simp)
    have HA := Lib.hid hA
    clear hA
    have hB1 := hB0.alloc hB0.size (.cells #[.int .i64 n, .int .i64 most] 147)
    go_enter Tryd.func139, Tryd.ntmps139
    go_wp2_with fail
    refine (within_any (some ⟨w.heap.size + 1, 0, none⟩) 1 [(n, most)] _ (by simp) HA.out).mono ?_
    rintro e w2 ⟨rfl, hb⟩
    have HB := Lib.hid (below_then hB1 hb)
    clear hb
    go_wp2
    go_ret
    exact ⟨ret_bool (by simp [Opt.ok, inLim]), HB.out⟩

theorem refIn_any (n most : Int) (w : World) :
    Calls Tryd.prog 96 #[.int .i64 n, .int .i64 most] w fun e w' => e = .returned (.bool (okN n most)) ∧ w = w' := by
  by_cases h : 0 ≤ n
  · have HS := Lib.hid (show okN n most = decide (n ≤ most) by simp [okN, h])
    go_enter Tryd.func96, Tryd.ntmps96
    go_wp2
    go_ret
    exact ⟨ret_bool HS.out.symm, rfl⟩
  · have HS := Lib.hid (show okN n most = false by simp [okN]; omega)
    go_enter Tryd.func96, Tryd.ntmps96
    go_wp2
    go_ret
    exact ⟨ret_bool HS.out.symm, rfl⟩

set_option maxHeartbeats 800000 in
theorem refOption_any (o : Opt) (most : Int) (w : World) :
    Calls Tryd.prog 112 #[.agg o.vals.toArray, .int .i64 most] w fun e w' => e = .returned (.bool (o.ok most)) ∧ Below w.heap.size w w' := by
  have hr := range_new w o.vals 53
  have hc0 := hr 0 _ rfl
  have hc1 := hr 1 _ rfl
  have hB0 : Below w.heap.size w (w.alloc (.cells o.vals.toArray 53)) := (Below.refl _ _).alloc (Nat.le_refl _) _
  clear hr
  obtain ⟨is, n⟩ := o
  unfold Opt.vals at *
  cases is
  · go_enter Tryd.func112, Tryd.ntmps112
    go_wp2
    go_ret
    exact ⟨rfl, hB0⟩
  · go_enter Tryd.func112, Tryd.ntmps112
    go_wp2_with fail
    refine (refIn_any n most _).mono ?_
    rintro e w2 ⟨rfl, rfl⟩
    go_wp2
    go_ret
    exact ⟨rfl, hB0⟩

end Go.Proofs.YthfhdighniiodaaDoor


/-
  Layer 5, walks: what may be set, by the program and by the reference; whether nothing is to be set. No condition.
-/
namespace Go.Proofs.YthfhdighniiodaaDoor
open Go.RowKit
attribute [local go_sem ↓] Go.wp_at_zero Go.wp_at_succ

theorem ldOpt {ρ : Operand → Value} {w : World} {dst : Option Tmp} {ty : TypeId} {pos : String} {after : Array Edge} {g : Option (Nat × Bool)} {x : Operand} (h : (rowAt w 2 (ρ x)).isSome = true) :
    (execOp ρ ⟨dst, .load 53 x, ty, pos, after, g⟩).run Tryd.prog w = .ok (.value (.agg ((rowAt w 2 (ρ x)).getD #[]))) w := ex_load 53 2 Tryd.underlying53 rfl (by kernel_rfl) h
theorem ldSet {ρ : Operand → Value} {w : World} {dst : Option Tmp} {ty : TypeId} {pos : String} {after : Array Edge} {g : Option (Nat × Bool)} {x : Operand} (h : (rowAt w 10 (ρ x)).isSome = true) :
    (execOp ρ ⟨dst, .load 55 x, ty, pos, after, g⟩).run Tryd.prog w = .ok (.value (.agg ((rowAt w 10 (ρ x)).getD #[]))) w := ex_load 55 10 Tryd.underlying55 rfl (by kernel_rfl) h
attribute [local go_sem ↓] ldOpt ldSet

attribute [local go_sem] rowAt_ptr rowOf_drew rowOf_drewN

theorem settRows {w : World} {g : Nat} {s : Sett} (h : Blk w g 55 s.vals) :
    rowOf w g 0 10 = some s.vals.toArray ∧ rowOf w g 0 2 = some s.mode.vals.toArray ∧ rowOf w g 2 2 = some s.uid.vals.toArray ∧ rowOf w g 4 2 = some s.gid.vals.toArray ∧ rowOf w g 6 2 = some s.size.vals.toArray ∧ rowOf w g 8 2 = some s.time.vals.toArray :=
  ⟨h.row 0 10 (by simp [Sett.len]), h.row 0 2 (by simp [Sett.len]), h.row 2 2 (by simp [Sett.len]), h.row 4 2 (by simp [Sett.len]), h.row 6 2 (by simp [Sett.len]), h.row 8 2 (by simp [Sett.len])⟩

set_option maxHeartbeats 1600000 in
theorem set_any (s : Sett) (w : World) :
    Calls Tryd.prog 131 #[.agg s.vals.toArray] w fun e w' => e = .returned (.bool s.ok) ∧ Below w.heap.size w w' := by
  have hb0 := Blk.new w 55 s.vals
  have hB0 : Below w.heap.size w (w.alloc (.cells s.vals.toArray 55)) := (Below.refl _ _).alloc (Nat.le_refl _) _
  obtain ⟨-, r0, -⟩ := settRows hb0
  go_enter Tryd.func131, Tryd.ntmps131
  go_wp2_with fail
  generalize w.alloc (.cells s.vals.toArray 55) = w0 at *
  refine (option_any s.mode 4095 _).mono ?_
  rintro e w1 ⟨rfl, hb⟩
  have hb1 := hb0.stays hb
  have hB1 := below_then hB0 hb
  obtain ⟨-, -, r1, -⟩ := settRows hb1
  clear hb r0 hb0 hB0
  generalize h0 : s.mode.ok 4095 = b0
  cases b0
  · have HS := Lib.hid (show s.ok = false by simp [Sett.ok, h0])
    go_wp2
    go_ret
    exact ⟨ret_bool HS.out.symm, hB1⟩
  have H0 := Lib.hid h0
  clear h0
  go_wp2_with fail
  refine (option_any s.uid 4294967295 _).mono ?_
  rintro e w2 ⟨rfl, hb⟩
  have hb2 := hb1.stays hb
  have hB2 := below_then hB1 hb
  obtain ⟨-, -, -, r2, -⟩ := settRows hb2
  clear hb r1 hb1 hB1
  generalize h1 : s.uid.ok 4294967295 = b1
  cases b1
  · have HS := Lib.hid (show s.ok = false by simp [Sett.ok, h1])
    go_wp2
    go_ret
    exact ⟨ret_bool HS.out.symm, hB2⟩
  have H1 := Lib.hid h1
  clear h1
  go_wp2_with fail
  refine (option_any s.gid 4294967295 _).mono ?_
  rintro e w3 ⟨rfl, hb⟩
  have hb3 := hb2.stays hb
  have hB3 := below_then hB2 hb
  obtain ⟨-, -, -, -, r3, -⟩ := settRows hb3
  clear hb r2 hb2 hB2
  generalize h2 : s.gid.ok 4294967295 = b2
  cases b2
  · have HS := Lib.hid (show s.ok = false by simp [Sett.ok, h2])
    go_wp2
    go_ret
    exact ⟨ret_bool HS.out.symm, hB3⟩
  have H2 := Lib.hid h2
  clear h2
  go_wp2_with fail
  refine (option_any s.size 9223372036854775807 _).mono ?_
  rintro e w4 ⟨rfl, hb⟩
  have hb4 := hb3.stays hb
  have hB4 := below_then hB3 hb
  obtain ⟨-, -, -, -, -, r4⟩ := settRows hb4
  clear hb r3 hb3 hB3
  generalize h3 : s.size.ok 9223372036854775807 = b3
  cases b3
  · have HS := Lib.hid (show s.ok = false by simp [Sett.ok, h3])
    go_wp2
    go_ret
    exact ⟨ret_bool HS.out.symm, hB4⟩
  have H3 := Lib.hid h3
  clear h3
  go_wp2_with fail
  refine (option_any s.time 9223372036854775807 _).mono ?_
  rintro e w5 ⟨rfl, hb⟩
  have hB5 := below_then hB4 hb
  go_wp2
  go_ret
  exact ⟨ret_bool (by simp [Sett.ok, H0.out, H1.out, H2.out, H3.out]), hB5⟩

set_option maxHeartbeats 1600000 in
theorem refSet_any (s : Sett) (w : World) :
    Calls Tryd.prog 111 #[.agg s.vals.toArray] w fun e w' => e = .returned (.bool s.ok) ∧ Below w.heap.size w w' := by
  have hb0 := Blk.new w 55 s.vals
  have hB0 : Below w.heap.size w (w.alloc (.cells s.vals.toArray 55)) := (Below.refl _ _).alloc (Nat.le_refl _) _
  obtain ⟨-, r0, -⟩ := settRows hb0
  go_enter Tryd.func111, Tryd.ntmps111
  go_wp2_with fail
  generalize w.alloc (.cells s.vals.toArray 55) = w0 at *
  refine (refOption_any s.mode 4095 _).mono ?_
  rintro e w1 ⟨rfl, hb⟩
  have hb1 := hb0.stays hb
  have hB1 := below_then hB0 hb
  obtain ⟨-, -, r1, -⟩ := settRows hb1
  clear hb r0 hb0 hB0
  generalize h0 : s.mode.ok 4095 = b0
  cases b0
  · have HS := Lib.hid (show s.ok = false by simp [Sett.ok, h0])
    go_wp2
    go_ret
    exact ⟨ret_bool HS.out.symm, hB1⟩
  have H0 := Lib.hid h0
  clear h0
  go_wp2_with fail
  refine (refOption_any s.uid 4294967295 _).mono ?_
  rintro e w2 ⟨rfl, hb⟩
  have hb2 := hb1.stays hb
  have hB2 := below_then hB1 hb
  obtain ⟨-, -, -, r2, -⟩ := settRows hb2
  clear hb r1 hb1 hB1
  generalize h1 : s.uid.ok 4294967295 = b1
  cases b1
  · have HS := Lib.hid (show s.ok = false by simp [Sett.ok, h1])
    go_wp2
    go_ret
    exact ⟨ret_bool HS.out.symm, hB2⟩
  have H1 := Lib.hid h1
  clear h1
  go_wp2_with fail
  refine (refOption_any s.gid 4294967295 _).mono ?_
  rintro e w3 ⟨rfl, hb⟩
  have hb3 := hb2.stays hb
  have hB3 := below_then hB2 hb
  obtain ⟨-, -, -, -, r3, -⟩ := settRows hb3
  clear hb r2 hb2 hB2
  generalize h2 : s.gid.ok 4294967295 = b2
  cases b2
  · have HS := Lib.hid (show s.ok = false by simp [Sett.ok, h2])
    go_wp2
    go_ret
    exact ⟨ret_bool HS.out.symm, hB3⟩
  have H2 := Lib.hid h2
  clear h2
  go_wp2_with fail
  refine (refOption_any s.size 9223372036854775807 _).mono ?_
  rintro e w4 ⟨rfl, hb⟩
  have hb4 := hb3.stays hb
  have hB4 := below_then hB3 hb
  obtain ⟨-, -, -, -, -, r4⟩ := settRows hb4
  clear hb r3 hb3 hB3
  generalize h3 : s.size.ok 9223372036854775807 = b3
  cases b3
  · have HS := Lib.hid (show s.ok = false by simp [Sett.ok, h3])
    go_wp2
    go_ret
    exact ⟨ret_bool HS.out.symm, hB4⟩
  have H3 := Lib.hid h3
  clear h3
  go_wp2_with fail
  refine (refOption_any s.time 9223372036854775807 _).mono ?_
  rintro e w5 ⟨rfl, hb⟩
  have hB5 := below_then hB4 hb
  go_wp2
  go_ret
  exact ⟨ret_bool (by simp [Sett.ok, H0.out, H1.out, H2.out, H3.out]), hB5⟩

set_option maxHeartbeats 800000 in
theorem checkSet_any (s : Sett) (w : World) :
    Calls Tryd.prog 115 #[.agg s.vals.toArray] w fun e w' => e = .returned (.int .i64 (form s.ok)) ∧ Below w.heap.size w w' := by
  have hb0 := Blk.new w 55 s.vals
  have hB0 : Below w.heap.size w (w.alloc (.cells s.vals.toArray 55)) := (Below.refl _ _).alloc (Nat.le_refl _) _
  obtain ⟨r0, -⟩ := settRows hb0
  go_enter Tryd.func115, Tryd.ntmps115
  go_wp2_with fail
  refine (set_any s _).mono ?_
  rintro e w1 ⟨rfl, hb⟩
  have hB1 := below_then hB0 hb
  clear hb hb0 r0 hB0
  generalize h : s.ok = b
  have H := Lib.hid h
  clear h
  cases b
  all_goals
    go_wp2
    go_ret
    exact ⟨ret_int (by rw [H.out]; rfl), hB1⟩

end Go.Proofs.YthfhdighniiodaaDoor
