/-
  Layer 5, walks: whether options may be, by the program and by the reference. No condition.
-/
import Derived.Test.YthfhdighniiodaaDoorProg
import Derived.Test.YthfhdighniiodaaDoorC03
import Derived.Test.YthfhdighniiodaaDoorC02
import Derived.OpenShut
namespace Go.Proofs.YthfhdighniiodaaDoor
open Go.RowKit
attribute [local go_sem ↓] Go.wp_at_zero Go.wp_at_succ

def limV (p : Int × Int) : List Value := [.int .i64 p.1, .int .i64 p.2]
theorem limV_one (p : Int × Int) : ∀ v ∈ limV p, v.oneCell' = true := by
  intro v hv
  unfold limV at hv
  simp only [List.mem_cons, List.not_mem_nil, or_false] at hv
  rcases hv with rfl | rfl <;> rfl
theorem infoLimit : (Tryd.prog.info? 147).map (fun i => (i.zero, i.size)) = some (some (.agg #[.int .i64 0, .int .i64 0]), 2) := by kernel_rfl
def inLim (p : Int × Int) : Bool := okN p.1 p.2
theorem all_step {α : Type} {p : α → Bool} {l : List α} {k : Nat} (hk : k < l.length) (hn : (l.take k).all p = true) (h : p l[k] = true) : (l.take (k + 1)).all p = true := by
  rw [take_next _ _ hk, List.all_append, hn]; simp [h]
theorem all_hit {α : Type} {p : α → Bool} {l : List α} {k : Nat} (hk : k < l.length) (h : p l[k] = false) : l.all p = false :=
  List.all_eq_false.2 ⟨_, List.getElem_mem hk, by simp [h]⟩
theorem all_end {α : Type} {p : α → Bool} {l : List α} {k : Nat} (hk : l.length ≤ k) (hn : (l.take k).all p = true) : l.all p = true := by
  rwa [List.take_of_length_le hk] at hn

set_option maxHeartbeats 800000 in
theorem within_any (A : Option Addr) (c : Nat) (ls : List (Int × Int)) (w : World) (hl : ls.length ≤ 1000000) (hA : At w 2 A (ls.map limV)) :
    Calls Tryd.prog 122 #[.slice A ls.length c] w fun e w' => e = .returned (.bool (ls.all inLim)) ∧ Below w.heap.size w w' := by
  go_enter Tryd.func122, Tryd.ntmps122
  go_wp2
  go_loopw [7] (fun i wr => ∃ k : Nat, k ≤ ls.length ∧ i = .int .i64 k ∧ (ls.take k).all inLim = true ∧ Below w.heap.size w wr) (fun i _ => ls.length - (intOf i).toNat)
  case atStart => exact ⟨0, Nat.zero_le _, rfl, rfl, Below.refl _ _⟩
  case round =>
    obtain ⟨k, hk, rfl, hn, hB⟩ := hrel
    by_cases hlt : k < ls.length
    · obtain ⟨b, off, rfl, hb, hc⟩ := (hA.below hB).getD (k := k) (by simpa using hlt)
      have hc' : ∀ j u, (limV ls[k])[j]? = some u → wr.cell? ⟨b, off + k * 2 + j, none⟩ = some u := fun j u hu => hc j u (by simpa using hu)
      have hr0 := range_new wr (limV ls[k]) 147 0 _ rfl
      have hr1 := range_new wr (limV ls[k]) 147 1 _ rfl
      have hB1 := hB.alloc hB.size (.cells (limV ls[k]).toArray 147)
      by_cases h : inLim ls[k] = true
      · have HS := Lib.hid (all_step hlt hn h)
        simp only [inLim, okN, Bool.and_eq_true, decide_eq_true_eq] at h
        obtain ⟨h1, h2⟩ := h
        clear hc hn
        go_wp2_with (first
          | (refine wpList_load_mid (by rfl) 147 _ (by rfl) _ _ (by rfl) _ _ (by exact hc') Tryd.underlying147 (by rfl) (by kernel_rfl) ?_)
          | (refine wpList_new_struct (by rfl) (by rfl) 147 (by rfl) _ _ (by rfl) (limV ls[k]) infoLimit (by rfl) (by rfl) (limV_one _) (by rfl) (by rfl) ?_)
          | fail)
        go_roundw
        case rel => exact ⟨k + 1, by omega, by go_num, HS.out, hB1⟩
        case measure => simp [intOf]; omega
      · rw [Bool.not_eq_true] at h
        have HS := Lib.hid (all_hit hlt h)
        simp only [inLim, okN, Bool.and_eq_false_iff, decide_eq_false_iff_not] at h
        clear hc hn
        by_cases h0 : ls[k].1 < 0
        · go_wp2_with (first
            | (refine wpList_load_mid (by rfl) 147 _ (by rfl) _ _ (by rfl) _ _ (by exact hc') Tryd.underlying147 (by rfl) (by kernel_rfl) ?_)
            | (refine wpList_new_struct (by rfl) (by rfl) 147 (by rfl) _ _ (by rfl) (limV ls[k]) infoLimit (by rfl) (by rfl) (limV_one _) (by rfl) (by rfl) ?_)
            | fail)
          go_ret
          exact ⟨ret_bool HS.out.symm, hB1⟩
        · have h2 : ls[k].2 < ls[k].1 := by rcases h with h | h <;> omega
          go_wp2_with (first
            | (refine wpList_load_mid (by rfl) 147 _ (by rfl) _ _ (by rfl) _ _ (by exact hc') Tryd.underlying147 (by rfl) (by kernel_rfl) ?_)
            | (refine wpList_new_struct (by rfl) (by rfl) 147 (by rfl) _ _ (by rfl) (limV ls[k]) infoLimit (by rfl) (by rfl) (limV_one _) (by rfl) (by rfl) ?_)
            | fail)
          go_ret
          exact ⟨ret_bool HS.out.symm, hB1⟩
    · have HE := Lib.hid (all_end (by omega) hn)
      clear hn hA
      go_wp2
      go_ret
      exact ⟨ret_bool HE.out.symm, hB⟩

set_option maxHeartbeats 800000 in
theorem option_any (o : Opt) (most : Int) (w : World) :
    Calls Tryd.prog 139 #[.agg o.vals.toArray, .int .i64 most] w fun e w' => e = .returned (.bool (o.ok most)) ∧ Below w.heap.size w w' := by
  have hr := range_new w o.vals 53
  have hc0 := hr 0 _ rfl
  have hc1 := hr 1 _ rfl
  have hB0 : Below w.heap.size w (w.alloc (.cells o.vals.toArray 53)) := (Below.refl _ _).alloc (Nat.le_refl _) _
  clear hr
  obtain ⟨is, n⟩ := o
  unfold Opt.vals at *
  cases is
  · go_enter Tryd.func139, Tryd.ntmps139
    go_wp2
    go_ret
    exact ⟨rfl, hB0⟩
  · have hA : At ((w.alloc (.cells #[.bool true, .int .i64 n] 53)).alloc (.cells #[.int .i64 n, .int .i64 most] 147)) 2 (some ⟨w.heap.size + 1, 0, none⟩) [limV (n, most)] := At.fresh _ _ _ _ _ (by simp [limV]) (by simp)
    have HA := Lib.hid hA
    clear hA
    have hB1 := hB0.alloc hB0.size (.cells #[.int .i64 n, .int .i64 most] 147)
    go_enter Tryd.func139, Tryd.ntmps139
    go_wp2_with fail
    refine (within_any (some ⟨w.heap.size + 1, 0, none⟩) 1 [(n, most)] _ (by simp) HA.out).mono ?_
    rintro e w2 ⟨rfl, hb⟩
    have HB := Lib.hid (below_then hB1 hb)
    clear hb
    go_wp2
    go_ret
    exact ⟨ret_bool (by simp [Opt.ok, inLim]), HB.out⟩

theorem refIn_any (n most : Int) (w : World) :
    Calls Tryd.prog 96 #[.int .i64 n, .int .i64 most] w fun e w' => e = .returned (.bool (okN n most)) ∧ w = w' := by
  by_cases h : 0 ≤ n
  · have HS := Lib.hid (show okN n most = decide (n ≤ most) by simp [okN, h])
    go_enter Tryd.func96, Tryd.ntmps96
    go_wp2
    go_ret
    exact ⟨ret_bool HS.out.symm, rfl⟩
  · have HS := Lib.hid (show okN n most = false by simp [okN]; omega)
    go_enter Tryd.func96, Tryd.ntmps96
    go_wp2
    go_ret
    exact ⟨ret_bool HS.out.symm, rfl⟩

set_option maxHeartbeats 800000 in
theorem refOption_any (o : Opt) (most : Int) (w : World) :
    Calls Tryd.prog 112 #[.agg o.vals.toArray, .int .i64 most] w fun e w' => e = .returned (.bool (o.ok most)) ∧ Below w.heap.size w w' := by
  have hr := range_new w o.vals 53
  have hc0 := hr 0 _ rfl
  have hc1 := hr 1 _ rfl
  have hB0 : Below w.heap.size w (w.alloc (.cells o.vals.toArray 53)) := (Below.refl _ _).alloc (Nat.le_refl _) _
  clear hr
  obtain ⟨is, n⟩ := o
  unfold Opt.vals at *
  cases is
  · go_enter Tryd.func112, Tryd.ntmps112
    go_wp2
    go_ret
    exact ⟨rfl, hB0⟩
  · go_enter Tryd.func112, Tryd.ntmps112
    go_wp2_with fail
    refine (refIn_any n most _).mono ?_
    rintro e w2 ⟨rfl, rfl⟩
    go_wp2
    go_ret
    exact ⟨rfl, hB0⟩

end Go.Proofs.YthfhdighniiodaaDoor

/-
  Layer 5, walks: what may be set, by the program and by the reference; whether nothing is to be set. No condition.
-/
namespace Go.Proofs.YthfhdighniiodaaDoor
open Go.RowKit
attribute [local go_sem ↓] Go.wp_at_zero Go.wp_at_succ

theorem ldOpt {ρ : Operand → Value} {w : World} {dst : Option Tmp} {ty : TypeId} {pos : String} {after : Array Edge} {g : Option (Nat × Bool)} {x : Operand} (h : (rowAt w 2 (ρ x)).isSome = true) :
    (execOp ρ ⟨dst, .load 53 x, ty, pos, after, g⟩).run Tryd.prog w = .ok (.value (.agg ((rowAt w 2 (ρ x)).getD #[]))) w := ex_load 53 2 Tryd.underlying53 rfl (by kernel_rfl) h
theorem ldSet {ρ : Operand → Value} {w : World} {dst : Option Tmp} {ty : TypeId} {pos : String} {after : Array Edge} {g : Option (Nat × Bool)} {x : Operand} (h : (rowAt w 10 (ρ x)).isSome = true) :
    (execOp ρ ⟨dst, .load 55 x, ty, pos, after, g⟩).run Tryd.prog w = .ok (.value (.agg ((rowAt w 10 (ρ x)).getD #[]))) w := ex_load 55 10 Tryd.underlying55 rfl (by kernel_rfl) h
attribute [local go_sem ↓] ldOpt ldSet

attribute [local go_sem] rowAt_ptr rowOf_drew rowOf_drewN

theorem settRows {w : World} {g : Nat} {s : Sett} (h : Blk w g 55 s.vals) :
    rowOf w g 0 10 = some s.vals.toArray ∧ rowOf w g 0 2 = some s.mode.vals.toArray ∧ rowOf w g 2 2 = some s.uid.vals.toArray ∧ rowOf w g 4 2 = some s.gid.vals.toArray ∧ rowOf w g 6 2 = some s.size.vals.toArray ∧ rowOf w g 8 2 = some s.time.vals.toArray :=
  ⟨h.row 0 10 (by simp [Sett.len]), h.row 0 2 (by simp [Sett.len]), h.row 2 2 (by simp [Sett.len]), h.row 4 2 (by simp [Sett.len]), h.row 6 2 (by simp [Sett.len]), h.row 8 2 (by simp [Sett.len])⟩

set_option maxHeartbeats 1600000 in
theorem set_any (s : Sett) (w : World) :
    Calls Tryd.prog 131 #[.agg s.vals.toArray] w fun e w' => e = .returned (.bool s.ok) ∧ Below w.heap.size w w' := by
  have hb0 := Blk.new w 55 s.vals
  have hB0 : Below w.heap.size w (w.alloc (.cells s.vals.toArray 55)) := (Below.refl _ _).alloc (Nat.le_refl _) _
  obtain ⟨-, r0, -⟩ := settRows hb0
  go_enter Tryd.func131, Tryd.ntmps131
  go_wp2_with fail
  generalize w.alloc (.cells s.vals.toArray 55) = w0 at *
  refine (option_any s.mode 4095 _).mono ?_
  rintro e w1 ⟨rfl, hb⟩
  have hb1 := hb0.stays hb
  have hB1 := below_then hB0 hb
  obtain ⟨-, -, r1, -⟩ := settRows hb1
  clear hb r0 hb0 hB0
  generalize h0 : s.mode.ok 4095 = b0
  cases b0
  · have HS := Lib.hid (show s.ok = false by simp [Sett.ok, h0])
    go_wp2
    go_ret
    exact ⟨ret_bool HS.out.symm, hB1⟩
  have H0 := Lib.hid h0
  clear h0
  go_wp2_with fail
  refine (option_any s.uid 4294967295 _).mono ?_
  rintro e w2 ⟨rfl, hb⟩
  have hb2 := hb1.stays hb
  have hB2 := below_then hB1 hb
  obtain ⟨-, -, -, r2, -⟩ := settRows hb2
  clear hb r1 hb1 hB1
  generalize h1 : s.uid.ok 4294967295 = b1
  cases b1
  · have HS := Lib.hid (show s.ok = false by simp [Sett.ok, h1])
    go_wp2
    go_ret
    exact ⟨ret_bool HS.out.symm, hB2⟩
  have H1 := Lib.hid h1
  clear h1
  go_wp2_with fail
  refine (option_any s.gid 4294967295 _).mono ?_
  rintro e w3 ⟨rfl, hb⟩
  have hb3 := hb2.stays hb
  have hB3 := below_then hB2 hb
  obtain ⟨-, -, -, -, r3, -⟩ := settRows hb3
  clear hb r2 hb2 hB2
  generalize h2 : s.gid.ok 4294967295 = b2
  cases b2
  · have HS := Lib.hid (show s.ok = false by simp [Sett.ok, h2])
    go_wp2
    go_ret
    exact ⟨ret_bool HS.out.symm, hB3⟩
  have H2 := Lib.hid h2
  clear h2
  go_wp2_with fail
  refine (option_any s.size 9223372036854775807 _).mono ?_
  rintro e w4 ⟨rfl, hb⟩
  have hb4 := hb3.stays hb
  have hB4 := below_then hB3 hb
  obtain ⟨-, -, -, -, -, r4⟩ := settRows hb4
  clear hb r3 hb3 hB3
  generalize h3 : s.size.ok 9223372036854775807 = b3
  cases b3
  · have HS := Lib.hid (show s.ok = false by simp [Sett.ok, h3])
    go_wp2
    go_ret
    exact ⟨ret_bool HS.out.symm, hB4⟩
  have H3 := Lib.hid h3
  clear h3
  go_wp2_with fail
  refine (option_any s.time 9223372036854775807 _).mono ?_
  rintro e w5 ⟨rfl, hb⟩
  have hB5 := below_then hB4 hb
  go_wp2
  go_ret
  exact ⟨ret_bool (by simp [Sett.ok, H0.out, H1.out, H2.out, H3.out]), hB5⟩

set_option maxHeartbeats 1600000 in
theorem refSet_any (s : Sett) (w : World) :
    Calls Tryd.prog 111 #[.agg s.vals.toArray] w fun e w' => e = .returned (.bool s.ok) ∧ Below w.heap.size w w' := by
  have hb0 := Blk.new w 55 s.vals
  have hB0 : Below w.heap.size w (w.alloc (.cells s.vals.toArray 55)) := (Below.refl _ _).alloc (Nat.le_refl _) _
  obtain ⟨-, r0, -⟩ := settRows hb0
  go_enter Tryd.func111, Tryd.ntmps111
  go_wp2_with fail
  generalize w.alloc (.cells s.vals.toArray 55) = w0 at *
  refine (refOption_any s.mode 4095 _).mono ?_
  rintro e w1 ⟨rfl, hb⟩
  have hb1 := hb0.stays hb
  have hB1 := below_then hB0 hb
  obtain ⟨-, -, r1, -⟩ := settRows hb1
  clear hb r0 hb0 hB0
  generalize h0 : s.mode.ok 4095 = b0
  cases b0
  · have HS := Lib.hid (show s.ok = false by simp [Sett.ok, h0])
    go_wp2
    go_ret
    exact ⟨ret_bool HS.out.symm, hB1⟩
  have H0 := Lib.hid h0
  clear h0
  go_wp2_with fail
  refine (refOption_any s.uid 4294967295 _).mono ?_
  rintro e w2 ⟨rfl, hb⟩
  have hb2 := hb1.stays hb
  have hB2 := below_then hB1 hb
  obtain ⟨-, -, -, r2, -⟩ := settRows hb2
  clear hb r1 hb1 hB1
  generalize h1 : s.uid.ok 4294967295 = b1
  cases b1
  · have HS := Lib.hid (show s.ok = false by simp [Sett.ok, h1])
    go_wp2
    go_ret
    exact ⟨ret_bool HS.out.symm, hB2⟩
  have H1 := Lib.hid h1
  clear h1
  go_wp2_with fail
  refine (refOption_any s.gid 4294967295 _).mono ?_
  rintro e w3 ⟨rfl, hb⟩
  have hb3 := hb2.stays hb
  have hB3 := below_then hB2 hb
  obtain ⟨-, -, -, -, r3, -⟩ := settRows hb3
  clear hb r2 hb2 hB2
  generalize h2 : s.gid.ok 4294967295 = b2
  cases b2
  · have HS := Lib.hid (show s.ok = false by simp [Sett.ok, h2])
    go_wp2
    go_ret
    exact ⟨ret_bool HS.out.symm, hB3⟩
  have H2 := Lib.hid h2
  clear h2
  go_wp2_with fail
  refine (refOption_any s.size 9223372036854775807 _).mono ?_
  rintro e w4 ⟨rfl, hb⟩
  have hb4 := hb3.stays hb
  have hB4 := below_then hB3 hb
  obtain ⟨-, -, -, -, -, r4⟩ := settRows hb4
  clear hb r3 hb3 hB3
  generalize h3 : s.size.ok 9223372036854775807 = b3
  cases b3
  · have HS := Lib.hid (show s.ok = false by simp [Sett.ok, h3])
    go_wp2
    go_ret
    exact ⟨ret_bool HS.out.symm, hB4⟩
  have H3 := Lib.hid h3
  clear h3
  go_wp2_with fail
  refine (refOption_any s.time 9223372036854775807 _).mono ?_
  rintro e w5 ⟨rfl, hb⟩
  have hB5 := below_then hB4 hb
  go_wp2
  go_ret
  exact ⟨ret_bool (by simp [Sett.ok, H0.out, H1.out, H2.out, H3.out]), hB5⟩

set_option maxHeartbeats 800000 in
theorem checkSet_any (s : Sett) (w : World) :
    Calls Tryd.prog 115 #[.agg s.vals.toArray] w fun e w' => e = .returned (.int .i64 (form s.ok)) ∧ Below w.heap.size w w' := by
  have hb0 := Blk.new w 55 s.vals
  have hB0 : Below w.heap.size w (w.alloc (.cells s.vals.toArray 55)) := (Below.refl _ _).alloc (Nat.le_refl _) _
  obtain ⟨r0, -⟩ := settRows hb0
  go_enter Tryd.func115, Tryd.ntmps115
  go_wp2_with fail
  refine (set_any s _).mono ?_
  rintro e w1 ⟨rfl, hb⟩
  have hB1 := below_then hB0 hb
  clear hb hb0 r0 hB0
  generalize h : s.ok = b
  have H := Lib.hid h
  clear h
  cases b
  all_goals
    go_wp2
    go_ret
    exact ⟨ret_int (by rw [H.out]; rfl), hB1⟩

end Go.Proofs.YthfhdighniiodaaDoor
