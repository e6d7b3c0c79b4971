/-
  Layer 7, walks: what is to be set, and the guard, may be; the field of a letter is copied (written by wip/tools/gencopied.py). Condition: calls at blocks of their own.
-/
import Derived.Test.YthfhdighniiodaaDoorC09
import Derived.Test.YthfhdighniiodaaDoorC01
import Derived.DeepKeys
namespace Go.Proofs.YthfhdighniiodaaDoor
open Go.RowKit
attribute [local go_sem ↓] Go.wp_at_zero Go.wp_at_succ
attribute [local go_sem] rowAt_ptr rowOf_drew rowOf_drewN rowOf_alloc_past rowOf_new
attribute [local go_sem ↓] ldSet ldOpt

attribute [local go_sem] Call.at0 Call.lat0 Call.at1 Call.lat1 Call.at2 Call.lat2 Call.at3 Call.lat3 Call.at4 Call.lat4 Call.at5 Call.lat5 Call.at6 Call.lat6 Call.at7 Call.lat7 Call.at8 Call.lat8 Call.at9 Call.lat9 Call.at10 Call.lat10 Call.at11 Call.lat11 Call.at12 Call.lat12 Call.at13 Call.lat13 Call.at14 Call.lat14 Call.at15 Call.lat15 Call.at16 Call.lat16 Call.at17 Call.lat17 Call.at18 Call.lat18 Call.at19 Call.lat19 Call.at20 Call.lat20 Call.at21 Call.lat21 Call.at22 Call.lat22 Call.at23 Call.lat23 Call.sub0_24 Call.lsub0_24 Call.sub9_10 Call.lsub9_10 Call.sub9_2 Call.lsub9_2 Call.sub11_2 Call.lsub11_2 Call.sub13_2 Call.lsub13_2 Call.sub15_2 Call.lsub15_2 Call.sub17_2 Call.lsub17_2 Call.sub19_2 Call.lsub19_2 Call.len Sett.at0 Sett.lat0 Sett.at1 Sett.lat1 Sett.at2 Sett.lat2 Sett.at3 Sett.lat3 Sett.at4 Sett.lat4 Sett.at5 Sett.lat5 Sett.at6 Sett.lat6 Sett.at7 Sett.lat7 Sett.at8 Sett.lat8 Sett.at9 Sett.lat9 Sett.sub0_10 Sett.lsub0_10 Sett.sub0_2 Sett.lsub0_2 Sett.sub2_2 Sett.lsub2_2 Sett.sub4_2 Sett.lsub4_2 Sett.sub6_2 Sett.lsub6_2 Sett.sub8_2 Sett.lsub8_2 Sett.len Opt.at0 Opt.lat0 Opt.at1 Opt.lat1 Opt.sub0_2 Opt.lsub0_2 Opt.len

theorem may_s (b : Nat) (x : Call) (w : World) (hB : Blk w b 57 x.vals) : Calls Tryd.prog 77 #[.pointer (some ⟨b, 0, none⟩), .int .i32 115] w fun e w' => e = .returned (.bool (cMay x 115)) ∧ Below w.heap.size w w' := by
  have hr : rowOf w b 9 10 = some x.set.vals.toArray := hB.row 9 10 (by simp [Call.len])
  have HS := Lib.hid (show cMay x 115 = x.set.ok by simp [cMay])
  go_enter Tryd.func77, Tryd.ntmps77
  go_wp2_with fail
  refine (checkSet_any _ _).mono ?_
  rintro e w1 ⟨rfl, hb⟩
  unfold form
  cases hk : x.set.ok
  all_goals
    have HK := Lib.hid hk
    clear hk
    go_wp2
    go_ret
    exact ⟨ret_bool (HK.out.symm.trans HS.out.symm), hb⟩
theorem may_g (b : Nat) (x : Call) (w : World) (hB : Blk w b 57 x.vals) : Calls Tryd.prog 77 #[.pointer (some ⟨b, 0, none⟩), .int .i32 103] w fun e w' => e = .returned (.bool (cMay x 103)) ∧ Below w.heap.size w w' := by
  have hc := hB.cell
  have HS := Lib.hid (show cMay x 103 = (decide (0 ≤ x.guard.n) && (x.guard.is || x.guard.n == 0)) by simp [cMay])
  go_enter Tryd.func77, Tryd.ntmps77
  go_wp2
  all_goals (go_ret; go_light; exact ⟨ret_bool (by rw [HS.out]; grind), Below.refl _ _⟩)

/-- the field of a letter is copied -/
def cCopy (z x : Call) (c : Nat) : Call :=
  if c = 102 then { z with fh := x.fh } else
  if c = 70 then { z with fh2 := x.fh2 } else
  if c = 110 then { z with name := x.name } else
  if c = 78 then { z with name2 := x.name2 } else
  if c = 116 then { z with text := x.text } else
  if c = 100 then { z with data := x.data } else
  if c = 111 then { z with offset := x.offset } else
  if c = 107 then { z with cookie := x.cookie } else
  if c = 118 then { z with verf := x.verf } else
  if c = 99 then { z with count := x.count } else
  if c = 104 then { z with how := x.how } else
  if c = 115 then { z with set := x.set } else
  if c = 103 then { z with guard := x.guard } else z
theorem copied_f (g b : Nat) (z x : Call) (w : World) (hA : Blk w g 57 z.vals) (hB : Blk w b 57 x.vals) : Calls Tryd.prog 76 #[.pointer (some ⟨g, 0, none⟩), .pointer (some ⟨b, 0, none⟩), .int .i32 102] w fun e w' => e = .returned (.tuple #[]) ∧ Blk w' g 57 (cCopy z x 102).vals ∧ Touch (fun k => k = g) w w' := by
  have ha := hA.cell
  have hf := hA.frozen
  have hc := hB.cell
  have HA := Lib.hid (show Blk (w.setCell ⟨g, 1, none⟩ (.string (bs x.fh))) g 57 (cCopy z x 102).vals from hA.set_ 1 (.string (bs x.fh)))
  have HT := Lib.hid ((Touch.refl (fun k => k = g) w).setCell_ (g := g) (o := 1) (.inl rfl) (.string (bs x.fh)))
  clear hA hB
  go_enter Tryd.func76, Tryd.ntmps76
  go_wp2
  go_end0
  exact ⟨rfl, HA.out, HT.out⟩
theorem copied_f2 (g b : Nat) (z x : Call) (w : World) (hA : Blk w g 57 z.vals) (hB : Blk w b 57 x.vals) : Calls Tryd.prog 76 #[.pointer (some ⟨g, 0, none⟩), .pointer (some ⟨b, 0, none⟩), .int .i32 70] w fun e w' => e = .returned (.tuple #[]) ∧ Blk w' g 57 (cCopy z x 70).vals ∧ Touch (fun k => k = g) w w' := by
  have ha := hA.cell
  have hf := hA.frozen
  have hc := hB.cell
  have HA := Lib.hid (show Blk (w.setCell ⟨g, 3, none⟩ (.string (bs x.fh2))) g 57 (cCopy z x 70).vals from hA.set_ 3 (.string (bs x.fh2)))
  have HT := Lib.hid ((Touch.refl (fun k => k = g) w).setCell_ (g := g) (o := 3) (.inl rfl) (.string (bs x.fh2)))
  clear hA hB
  go_enter Tryd.func76, Tryd.ntmps76
  go_wp2
  go_end0
  exact ⟨rfl, HA.out, HT.out⟩
theorem copied_n (g b : Nat) (z x : Call) (w : World) (hA : Blk w g 57 z.vals) (hB : Blk w b 57 x.vals) : Calls Tryd.prog 76 #[.pointer (some ⟨g, 0, none⟩), .pointer (some ⟨b, 0, none⟩), .int .i32 110] w fun e w' => e = .returned (.tuple #[]) ∧ Blk w' g 57 (cCopy z x 110).vals ∧ Touch (fun k => k = g) w w' := by
  have ha := hA.cell
  have hf := hA.frozen
  have hc := hB.cell
  have HA := Lib.hid (show Blk (w.setCell ⟨g, 2, none⟩ (.string (bs x.name))) g 57 (cCopy z x 110).vals from hA.set_ 2 (.string (bs x.name)))
  have HT := Lib.hid ((Touch.refl (fun k => k = g) w).setCell_ (g := g) (o := 2) (.inl rfl) (.string (bs x.name)))
  clear hA hB
  go_enter Tryd.func76, Tryd.ntmps76
  go_wp2
  go_end0
  exact ⟨rfl, HA.out, HT.out⟩
theorem copied_n2 (g b : Nat) (z x : Call) (w : World) (hA : Blk w g 57 z.vals) (hB : Blk w b 57 x.vals) : Calls Tryd.prog 76 #[.pointer (some ⟨g, 0, none⟩), .pointer (some ⟨b, 0, none⟩), .int .i32 78] w fun e w' => e = .returned (.tuple #[]) ∧ Blk w' g 57 (cCopy z x 78).vals ∧ Touch (fun k => k = g) w w' := by
  have ha := hA.cell
  have hf := hA.frozen
  have hc := hB.cell
  have HA := Lib.hid (show Blk (w.setCell ⟨g, 4, none⟩ (.string (bs x.name2))) g 57 (cCopy z x 78).vals from hA.set_ 4 (.string (bs x.name2)))
  have HT := Lib.hid ((Touch.refl (fun k => k = g) w).setCell_ (g := g) (o := 4) (.inl rfl) (.string (bs x.name2)))
  clear hA hB
  go_enter Tryd.func76, Tryd.ntmps76
  go_wp2
  go_end0
  exact ⟨rfl, HA.out, HT.out⟩
theorem copied_t (g b : Nat) (z x : Call) (w : World) (hA : Blk w g 57 z.vals) (hB : Blk w b 57 x.vals) : Calls Tryd.prog 76 #[.pointer (some ⟨g, 0, none⟩), .pointer (some ⟨b, 0, none⟩), .int .i32 116] w fun e w' => e = .returned (.tuple #[]) ∧ Blk w' g 57 (cCopy z x 116).vals ∧ Touch (fun k => k = g) w w' := by
  have ha := hA.cell
  have hf := hA.frozen
  have hc := hB.cell
  have HA := Lib.hid (show Blk (w.setCell ⟨g, 23, none⟩ (.string (bs x.text))) g 57 (cCopy z x 116).vals from hA.set_ 23 (.string (bs x.text)))
  have HT := Lib.hid ((Touch.refl (fun k => k = g) w).setCell_ (g := g) (o := 23) (.inl rfl) (.string (bs x.text)))
  clear hA hB
  go_enter Tryd.func76, Tryd.ntmps76
  go_wp2
  go_end0
  exact ⟨rfl, HA.out, HT.out⟩
theorem copied_d (g b : Nat) (z x : Call) (w : World) (hA : Blk w g 57 z.vals) (hB : Blk w b 57 x.vals) : Calls Tryd.prog 76 #[.pointer (some ⟨g, 0, none⟩), .pointer (some ⟨b, 0, none⟩), .int .i32 100] w fun e w' => e = .returned (.tuple #[]) ∧ Blk w' g 57 (cCopy z x 100).vals ∧ Touch (fun k => k = g) w w' := by
  have ha := hA.cell
  have hf := hA.frozen
  have hc := hB.cell
  have HA := Lib.hid (show Blk (w.setCell ⟨g, 8, none⟩ (.string (bs x.data))) g 57 (cCopy z x 100).vals from hA.set_ 8 (.string (bs x.data)))
  have HT := Lib.hid ((Touch.refl (fun k => k = g) w).setCell_ (g := g) (o := 8) (.inl rfl) (.string (bs x.data)))
  clear hA hB
  go_enter Tryd.func76, Tryd.ntmps76
  go_wp2
  go_end0
  exact ⟨rfl, HA.out, HT.out⟩
theorem copied_o (g b : Nat) (z x : Call) (w : World) (hA : Blk w g 57 z.vals) (hB : Blk w b 57 x.vals) : Calls Tryd.prog 76 #[.pointer (some ⟨g, 0, none⟩), .pointer (some ⟨b, 0, none⟩), .int .i32 111] w fun e w' => e = .returned (.tuple #[]) ∧ Blk w' g 57 (cCopy z x 111).vals ∧ Touch (fun k => k = g) w w' := by
  have ha := hA.cell
  have hf := hA.frozen
  have hc := hB.cell
  have HA := Lib.hid (show Blk (w.setCell ⟨g, 5, none⟩ (.int .i64 x.offset)) g 57 (cCopy z x 111).vals from hA.set_ 5 (.int .i64 x.offset))
  have HT := Lib.hid ((Touch.refl (fun k => k = g) w).setCell_ (g := g) (o := 5) (.inl rfl) (.int .i64 x.offset))
  clear hA hB
  go_enter Tryd.func76, Tryd.ntmps76
  go_wp2
  go_end0
  exact ⟨rfl, HA.out, HT.out⟩
theorem copied_k (g b : Nat) (z x : Call) (w : World) (hA : Blk w g 57 z.vals) (hB : Blk w b 57 x.vals) : Calls Tryd.prog 76 #[.pointer (some ⟨g, 0, none⟩), .pointer (some ⟨b, 0, none⟩), .int .i32 107] w fun e w' => e = .returned (.tuple #[]) ∧ Blk w' g 57 (cCopy z x 107).vals ∧ Touch (fun k => k = g) w w' := by
  have ha := hA.cell
  have hf := hA.frozen
  have hc := hB.cell
  have HA := Lib.hid (show Blk (w.setCell ⟨g, 21, none⟩ (.int .i64 x.cookie)) g 57 (cCopy z x 107).vals from hA.set_ 21 (.int .i64 x.cookie))
  have HT := Lib.hid ((Touch.refl (fun k => k = g) w).setCell_ (g := g) (o := 21) (.inl rfl) (.int .i64 x.cookie))
  clear hA hB
  go_enter Tryd.func76, Tryd.ntmps76
  go_wp2
  go_end0
  exact ⟨rfl, HA.out, HT.out⟩
theorem copied_v (g b : Nat) (z x : Call) (w : World) (hA : Blk w g 57 z.vals) (hB : Blk w b 57 x.vals) : Calls Tryd.prog 76 #[.pointer (some ⟨g, 0, none⟩), .pointer (some ⟨b, 0, none⟩), .int .i32 118] w fun e w' => e = .returned (.tuple #[]) ∧ Blk w' g 57 (cCopy z x 118).vals ∧ Touch (fun k => k = g) w w' := by
  have ha := hA.cell
  have hf := hA.frozen
  have hc := hB.cell
  have HA := Lib.hid (show Blk (w.setCell ⟨g, 22, none⟩ (.int .i64 x.verf)) g 57 (cCopy z x 118).vals from hA.set_ 22 (.int .i64 x.verf))
  have HT := Lib.hid ((Touch.refl (fun k => k = g) w).setCell_ (g := g) (o := 22) (.inl rfl) (.int .i64 x.verf))
  clear hA hB
  go_enter Tryd.func76, Tryd.ntmps76
  go_wp2
  go_end0
  exact ⟨rfl, HA.out, HT.out⟩
theorem copied_c (g b : Nat) (z x : Call) (w : World) (hA : Blk w g 57 z.vals) (hB : Blk w b 57 x.vals) : Calls Tryd.prog 76 #[.pointer (some ⟨g, 0, none⟩), .pointer (some ⟨b, 0, none⟩), .int .i32 99] w fun e w' => e = .returned (.tuple #[]) ∧ Blk w' g 57 (cCopy z x 99).vals ∧ Touch (fun k => k = g) w w' := by
  have ha := hA.cell
  have hf := hA.frozen
  have hc := hB.cell
  have HA := Lib.hid (show Blk (w.setCell ⟨g, 6, none⟩ (.int .i64 x.count)) g 57 (cCopy z x 99).vals from hA.set_ 6 (.int .i64 x.count))
  have HT := Lib.hid ((Touch.refl (fun k => k = g) w).setCell_ (g := g) (o := 6) (.inl rfl) (.int .i64 x.count))
  clear hA hB
  go_enter Tryd.func76, Tryd.ntmps76
  go_wp2
  go_end0
  exact ⟨rfl, HA.out, HT.out⟩
theorem copied_h (g b : Nat) (z x : Call) (w : World) (hA : Blk w g 57 z.vals) (hB : Blk w b 57 x.vals) : Calls Tryd.prog 76 #[.pointer (some ⟨g, 0, none⟩), .pointer (some ⟨b, 0, none⟩), .int .i32 104] w fun e w' => e = .returned (.tuple #[]) ∧ Blk w' g 57 (cCopy z x 104).vals ∧ Touch (fun k => k = g) w w' := by
  have ha := hA.cell
  have hf := hA.frozen
  have hc := hB.cell
  have HA := Lib.hid (show Blk (w.setCell ⟨g, 7, none⟩ (.int .i64 x.how)) g 57 (cCopy z x 104).vals from hA.set_ 7 (.int .i64 x.how))
  have HT := Lib.hid ((Touch.refl (fun k => k = g) w).setCell_ (g := g) (o := 7) (.inl rfl) (.int .i64 x.how))
  clear hA hB
  go_enter Tryd.func76, Tryd.ntmps76
  go_wp2
  go_end0
  exact ⟨rfl, HA.out, HT.out⟩
theorem copied_s (g b : Nat) (z x : Call) (w : World) (hA : Blk w g 57 z.vals) (hB : Blk w b 57 x.vals) : Calls Tryd.prog 76 #[.pointer (some ⟨g, 0, none⟩), .pointer (some ⟨b, 0, none⟩), .int .i32 115] w fun e w' => e = .returned (.tuple #[]) ∧ Blk w' g 57 (cCopy z x 115).vals ∧ Touch (fun k => k = g) w w' := by
  have hr : rowOf w b 9 10 = some x.set.vals.toArray := hB.row 9 10 (by simp [Call.len])
  have HA := Lib.hid (show Blk (w.setCells g 9 x.set.vals) g 57 (cCopy z x 115).vals from hA.sets x.set.vals _ 9)
  have HT := Lib.hid (Touch.setCells (F := fun k => k = g) (g := g) (.inl rfl) x.set.vals 9 w (Touch.refl _ w))
  clear hB
  go_enter Tryd.func76, Tryd.ntmps76
  go_wp2_with (first | (refine wpList_store_part (by rfl) 55 _ _ (by rfl) g 9 x.set.vals _ hA (by simp [Sett.len, Call.len]) (by rfl) (by rfl) (by kernel_rfl) (Sett.one _) ?_) | fail)
  go_end0
  exact ⟨rfl, HA.out, HT.out⟩
theorem copied_g (g b : Nat) (z x : Call) (w : World) (hA : Blk w g 57 z.vals) (hB : Blk w b 57 x.vals) : Calls Tryd.prog 76 #[.pointer (some ⟨g, 0, none⟩), .pointer (some ⟨b, 0, none⟩), .int .i32 103] w fun e w' => e = .returned (.tuple #[]) ∧ Blk w' g 57 (cCopy z x 103).vals ∧ Touch (fun k => k = g) w w' := by
  have hr : rowOf w b 19 2 = some x.guard.vals.toArray := hB.row 19 2 (by simp [Call.len])
  have HA := Lib.hid (show Blk (w.setCells g 19 x.guard.vals) g 57 (cCopy z x 103).vals from hA.sets x.guard.vals _ 19)
  have HT := Lib.hid (Touch.setCells (F := fun k => k = g) (g := g) (.inl rfl) x.guard.vals 19 w (Touch.refl _ w))
  clear hB
  go_enter Tryd.func76, Tryd.ntmps76
  go_wp2_with (first | (refine wpList_store_part (by rfl) 53 _ _ (by rfl) g 19 x.guard.vals _ hA (by simp [Opt.len, Call.len]) (by rfl) (by rfl) (by kernel_rfl) (Opt.one _) ?_) | fail)
  go_end0
  exact ⟨rfl, HA.out, HT.out⟩
end Go.Proofs.YthfhdighniiodaaDoor

/-
  Two structs of numbers, truths and texts held against each other by '==', whole. No condition.
-/
namespace Go.Proofs.YthfhdighniiodaaDoor
open Go.RowKit

inductive Leaf where
  | i (k : IntKind)
  | b
  | s
def Leaf.fits : Leaf → Value → Bool
  | .i k, .int k' _ => decide (k' = k)
  | .b, .bool _ => true
  | .s, .string _ => true
  | _, _ => false
def fits : List Leaf → List Value → Bool
  | [], [] => true
  | l :: ls, v :: vs => l.fits v && fits ls vs
  | _, _ => false
def leafsF (f : TypeId → Option (List Leaf)) : List Field → Nat → Option (List Leaf)
  | [], _ => some []
  | x :: xs, off =>
    if x.name = "_" ∨ x.offset ≠ off then none
    else match f x.type with
      | none => none
      | some l => match leafsF f xs (off + l.length) with
        | none => none
        | some r => some (l ++ r)
/-- the cells of a type of numbers, truths and texts, and of structs of such -/
def leafs (P : Program) : Nat → TypeId → Option (List Leaf)
  | 0, _ => none
  | d + 1, t =>
    match P.underlying t with
    | some .bool => some [.b]
    | some (.int k) => some [.i k]
    | some .string => some [.s]
    | some (.struct fs) =>
      if P.stoodInHeld t = true then none
      else match leafsF (leafs P d) fs.toList 0 with
        | none => none
        | some l => if P.cellsOf t = l.length then some l else none
    | _ => none
def isStruct (P : Program) (t : TypeId) : Bool := match P.underlying t with | some (.struct _) => true | _ => false
def valOf (P : Program) (t : TypeId) (xs : List Value) : Value := if isStruct P t then .agg xs.toArray else xs.headD undef

theorem fits_len : ∀ {ls : List Leaf} {xs : List Value}, fits ls xs = true → xs.length = ls.length
  | [], [], _ => rfl
  | [], _ :: _, h => by simp [fits] at h
  | _ :: _, [], h => by simp [fits] at h
  | _ :: _, _ :: _, h => by
    simp only [fits, Bool.and_eq_true] at h
    simp [fits_len h.2]
theorem fits_split : ∀ {a b : List Leaf} {xs : List Value}, fits (a ++ b) xs = true → fits a (xs.take a.length) = true ∧ fits b (xs.drop a.length) = true
  | [], _, _, h => ⟨rfl, by simpa using h⟩
  | _ :: _, _, [], h => by simp [fits] at h
  | _ :: a, b, _ :: xs, h => by
    simp only [List.cons_append, fits, Bool.and_eq_true] at h
    have := fits_split h.2
    simp only [List.length_cons, List.take_succ_cons, List.drop_succ_cons, fits, Bool.and_eq_true]
    exact ⟨⟨h.1, this.1⟩, this.2⟩
def EqOk (P : Program) (d : Nat) (t : TypeId) (ls : List Leaf) : Prop :=
  ∀ (w : World) (xs ys : List Value), fits ls xs = true → fits ls ys = true → ∃ r : Bool, (Op.equalIn d t (valOf P t xs) (valOf P t ys)).run P w = .ok r w ∧ (r = true ↔ xs = ys)

theorem leafs_len {P : Program} {d : Nat} {t : TypeId} {ls : List Leaf} (h : leafs P d t = some ls) : (isStruct P t = true → P.cellsOf t = ls.length) ∧ (isStruct P t = false → ls.length = 1) := by
  cases d with
  | zero => simp [leafs] at h
  | succ d =>
    unfold leafs at h
    unfold isStruct
    cases hu : P.underlying t with
    | none => simp [hu] at h
    | some k =>
      cases k <;> simp only [hu] at h <;> try (cases h; done)
      all_goals first
        | (split at h
           · cases h
           · split at h
             · cases h
             · split at h
               · rename_i hc
                 cases h
                 exact ⟨fun _ => hc, (fun h => by cases h)⟩
               · cases h)
        | (cases h; exact ⟨(fun h => by cases h), fun _ => rfl⟩)

theorem run_partL {P : Program} (w : World) {d : Nat} {t : TypeId} {ls : List Leaf} (h : leafs P d t = some ls) (xs : List Value) (off : Nat) (hf : fits ls ((xs.drop off).take ls.length) = true) :
    (part t xs.toArray off).run P w = .ok (valOf P t ((xs.drop off).take ls.length)) w := by
  obtain ⟨h1, h2⟩ := leafs_len h
  have hl := fits_len hf
  unfold valOf
  cases hs : isStruct P t with
  | true =>
    have hc := h1 hs
    unfold isStruct at hs
    split at hs
    · rename_i fs hu
      obtain ⟨i, hi⟩ := info_of_underlying hu
      simp [part, isAgg, run_underlying hu, run_sizeOf w hi, hc, List.extract]
    · cases hs
  | false =>
    have hc := h2 hs
    rw [hc] at hl ⊢
    obtain ⟨v, hv⟩ : ∃ v, (xs.drop off).take 1 = [v] := by
      cases hx : (xs.drop off).take 1 with
      | nil => rw [hx] at hl; cases hl
      | cons v r =>
        rw [hx] at hl
        cases r with
        | nil => exact ⟨v, rfl⟩
        | cons _ _ => simp at hl
    have hget : xs.toArray[off]? = some v := by
      have : ((xs.drop off).take 1)[0]? = some v := by rw [hv]; rfl
      simpa using this
    have hp : P.plainKey t = true := by
      cases d with
      | zero => simp [leafs] at h
      | succ d =>
        unfold leafs at h
        unfold Program.plainKey
        unfold isStruct at hs
        cases hu : P.underlying t with
        | none => simp [hu] at h
        | some k => cases k <;> simp_all
    rw [hv]
    exact run_part_plain w hp hget

theorem eqFieldsL {P : Program} (d e : Nat) (IH : ∀ t ls, leafs P d t = some ls → EqOk P (e + d) t ls) (xs ys : List Value) : ∀ (fs : List Field) (off : Nat) (ls : List Leaf), leafsF (leafs P d) fs off = some ls →
    fits ls (xs.drop off) = true → fits ls (ys.drop off) = true → ∀ w : World, ∃ r : Bool, (Op.eqFields (e + d) xs.toArray ys.toArray fs).run P w = .ok r w ∧ (r = true ↔ xs.drop off = ys.drop off)
  | [], off, ls, h, hx, hy, w => by
    simp only [leafsF, Option.some.injEq] at h
    subst h
    have hx := fits_len hx
    have hy := fits_len hy
    refine ⟨true, by simp [Op.eqFields], ?_⟩
    rw [List.eq_nil_of_length_eq_zero hx, List.eq_nil_of_length_eq_zero hy]
    simp
  | f :: fs, off, ls, h, hx, hy, w => by
    unfold leafsF at h
    split at h
    · cases h
    · rename_i hn
      have hn1 : f.name ≠ "_" := fun hh => hn (.inl hh)
      have hn2 : f.offset = off := Classical.not_not.1 fun hh => hn (.inr hh)
      split at h
      · cases h
      · rename_i l hl
        split at h
        · cases h
        · rename_i r hr
          cases h
          have sx := fits_split hx
          have sy := fits_split hy
          rw [List.drop_drop] at sx sy
          obtain ⟨b, hb, hbe⟩ := IH _ _ hl w _ _ sx.1 sy.1
          obtain ⟨c, hc, hce⟩ := eqFieldsL d e IH xs ys fs _ r hr sx.2 sy.2 w
          have p1 := run_partL w hl xs off sx.1
          have p2 := run_partL w hl ys off sy.1
          have cut : xs.drop off = ys.drop off ↔ (xs.drop off).take l.length = (ys.drop off).take l.length ∧ xs.drop (off + l.length) = ys.drop (off + l.length) := by
            rw [← List.drop_drop, ← List.drop_drop]
            constructor
            · intro h; rw [h]; exact ⟨rfl, rfl⟩
            · rintro ⟨h1, h2⟩
              rw [← List.take_append_drop l.length (xs.drop off), h1, h2, List.take_append_drop]
          cases b with
          | false =>
            refine ⟨false, by simp [Op.eqFields, hn1, hn2, p1, p2, hb], ?_⟩
            rw [cut, ← hbe]
            simp
          | true =>
            refine ⟨c, by simp [Op.eqFields, hn1, hn2, p1, p2, hb, hc], ?_⟩
            rw [cut, ← hbe, ← hce]
            simp

theorem equalInL {P : Program} (e : Nat) : ∀ (d : Nat) (t : TypeId) (ls : List Leaf), leafs P d t = some ls → EqOk P (e + d) t ls
  | 0, _, _, h => by simp [leafs] at h
  | d + 1, t, ls, h => by
    intro w xs ys hx hy
    have IH := equalInL (P := P) e d
    have lx := fits_len hx
    have ly := fits_len hy
    unfold leafs at h
    cases hu : P.underlying t with
    | none => simp [hu] at h
    | some k =>
      cases k <;> simp only [hu] at h <;> try (cases h; done)
      case struct fs =>
        split at h
        · cases h
        · rename_i hst
          split at h
          · cases h
          · rename_i l hl
            split at h
            · cases h
              have hs : isStruct P t = true := by simp [isStruct, hu]
              obtain ⟨r, hr, hre⟩ := eqFieldsL d e IH xs ys fs.toList 0 ls hl (by simpa using hx) (by simpa using hy) w
              refine ⟨r, ?_, by simpa using hre⟩
              unfold valOf
              rw [hs, if_pos rfl, if_pos rfl]
              have hf : P.fieldsOf t = fs := by simp [Program.fieldsOf, hu]
              rw [show e + (d + 1) = (e + d) + 1 by omega, run_equalIn_struct w (e + d) t xs.toArray ys.toArray (by rw [hf]; exact hu) (by simpa using hst), hf]
              exact hr
            · cases h
      all_goals
        cases h
        have hs : isStruct P t = false := by simp [isStruct, hu]
        obtain ⟨x, rfl⟩ : ∃ x, xs = [x] := by
          match xs, lx with
          | [x], _ => exact ⟨x, rfl⟩
        obtain ⟨y, rfl⟩ : ∃ y, ys = [y] := by
          match ys, ly with
          | [y], _ => exact ⟨y, rfl⟩
        simp only [fits, Bool.and_true] at hx hy
        unfold valOf
        rw [hs]
        rw [show e + (d + 1) = (e + d) + 1 by omega]
        cases x <;> simp only [Leaf.fits, Bool.false_eq_true, decide_eq_true_eq] at hx
        cases y <;> simp only [Leaf.fits, Bool.false_eq_true, decide_eq_true_eq] at hy
      case bool => exact ⟨_, run_equalIn_bool' w (e + d) t _ _ hu, by simp⟩
      case int =>
        subst hx; subst hy
        exact ⟨_, run_equalIn_int w (e + d) t _ _ _ _ hu, by simp⟩
      case string =>
        refine ⟨_, run_equalIn_string w (e + d) t _ _ hu, ?_⟩
        rw [beq_iff_eq, ByteArray.toList_eq, ByteArray.toList_eq]
        constructor
        · intro h
          congr 2
          exact ByteArray.ext (Array.toList_inj.1 h)
        · intro h
          simp only [List.cons.injEq, Value.string.injEq, and_true] at h
          rw [h]

/-- the same cells -/
theorem eql_same {P : Program} {t : TypeId} {ls : List Leaf} (h : leafs P 8 t = some ls) (hs : isStruct P t = true) (w : World) (xs ys : List Value) (hx : fits ls xs = true) (he : xs = ys) :
    (binOp .eql t (.agg xs.toArray) (.agg ys.toArray)).run P w = .ok (.bool true) w := by
  subst he
  obtain ⟨r, hr, hre⟩ := equalInL (P := P) 9992 8 t ls h w xs xs hx hx
  unfold valOf at hr
  rw [hs, if_pos rfl] at hr
  rw [run_eql_struct, hr, hre.2 rfl]
  rfl
theorem eql_other {P : Program} {t : TypeId} {ls : List Leaf} (h : leafs P 8 t = some ls) (hs : isStruct P t = true) (w : World) (xs ys : List Value) (hx : fits ls xs = true) (hy : fits ls ys = true) (he : xs ≠ ys) :
    (binOp .eql t (.agg xs.toArray) (.agg ys.toArray)).run P w = .ok (.bool false) w := by
  obtain ⟨r, hr, hre⟩ := equalInL (P := P) 9992 8 t ls h w xs ys hx hy
  unfold valOf at hr
  rw [hs, if_pos rfl, if_pos rfl] at hr
  cases r with
  | true => exact absurd (hre.1 rfl) he
  | false => rw [run_eql_struct, hr]; rfl
theorem neq_same {P : Program} {t : TypeId} {ls : List Leaf} (h : leafs P 8 t = some ls) (hs : isStruct P t = true) (w : World) (xs ys : List Value) (hx : fits ls xs = true) (he : xs = ys) :
    (binOp .neq t (.agg xs.toArray) (.agg ys.toArray)).run P w = .ok (.bool false) w := by
  subst he
  obtain ⟨r, hr, hre⟩ := equalInL (P := P) 9992 8 t ls h w xs xs hx hx
  unfold valOf at hr
  rw [hs, if_pos rfl] at hr
  rw [run_neq_struct, hr, hre.2 rfl]
  rfl
theorem neq_other {P : Program} {t : TypeId} {ls : List Leaf} (h : leafs P 8 t = some ls) (hs : isStruct P t = true) (w : World) (xs ys : List Value) (hx : fits ls xs = true) (hy : fits ls ys = true) (he : xs ≠ ys) :
    (binOp .neq t (.agg xs.toArray) (.agg ys.toArray)).run P w = .ok (.bool true) w := by
  obtain ⟨r, hr, hre⟩ := equalInL (P := P) 9992 8 t ls h w xs ys hx hy
  unfold valOf at hr
  rw [hs, if_pos rfl, if_pos rfl] at hr
  cases r with
  | true => exact absurd (hre.1 rfl) he
  | false => rw [run_neq_struct, hr]; rfl
end Go.Proofs.YthfhdighniiodaaDoor
