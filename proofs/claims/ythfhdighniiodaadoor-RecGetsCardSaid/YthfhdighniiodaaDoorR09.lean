/-
  Layer 5, walks: what may be set, by the program and by the reference; whether nothing is to be set. No condition.
-/
import Derived.Test.YthfhdighniiodaaDoorR08
import Derived.Test.YthfhdighniiodaaDoorR01
import Derived.DeepKeys
namespace Go.Proofs.YthfhdighniiodaaDoor
open Go.RowKit
attribute [local go_sem ↓] Go.wp_at_zero Go.wp_at_succ

theorem ldOpt {ρ : Operand → Value} {w : World} {dst : Option Tmp} {ty : TypeId} {pos : String} {after : Array Edge} {g : Option (Nat × Bool)} {x : Operand} (h : (rowAt w 2 (ρ x)).isSome = true) :
    (execOp ρ ⟨dst, .load 53 x, ty, pos, after, g⟩).run Tryd.prog w = .ok (.value (.agg ((rowAt w 2 (ρ x)).getD #[]))) w := ex_load 53 2 Tryd.underlying53 rfl (by kernel_rfl) h
theorem ldSet {ρ : Operand → Value} {w : World} {dst : Option Tmp} {ty : TypeId} {pos : String} {after : Array Edge} {g : Option (Nat × Bool)} {x : Operand} (h : (rowAt w 10 (ρ x)).isSome = true) :
    (execOp ρ ⟨dst, .load 55 x, ty, pos, after, g⟩).run Tryd.prog w = .ok (.value (.agg ((rowAt w 10 (ρ x)).getD #[]))) w := ex_load 55 10 Tryd.underlying55 rfl (by kernel_rfl) h
attribute [local go_sem ↓] ldOpt ldSet

attribute [local go_sem] rowAt_ptr rowOf_drew rowOf_drewN

theorem settRows {w : World} {g : Nat} {s : Sett} (h : Blk w g 55 s.vals) :
    rowOf w g 0 10 = some s.vals.toArray ∧ rowOf w g 0 2 = some s.mode.vals.toArray ∧ rowOf w g 2 2 = some s.uid.vals.toArray ∧ rowOf w g 4 2 = some s.gid.vals.toArray ∧ rowOf w g 6 2 = some s.size.vals.toArray ∧ rowOf w g 8 2 = some s.time.vals.toArray :=
  ⟨h.row 0 10 (by simp [Sett.len]), h.row 0 2 (by simp [Sett.len]), h.row 2 2 (by simp [Sett.len]), h.row 4 2 (by simp [Sett.len]), h.row 6 2 (by simp [Sett.len]), h.row 8 2 (by simp [Sett.len])⟩

set_option maxHeartbeats 1600000 in
theorem set_any (s : Sett) (w : World) :
    Calls Tryd.prog 131 #[.agg s.vals.toArray] w fun e w' => e = .returned (.bool s.ok) ∧ Below w.heap.size w w' := by
  have hb0 := Blk.new w 55 s.vals
  have hB0 : Below w.heap.size w (w.alloc (.cells s.vals.toArray 55)) := (Below.refl _ _).alloc (Nat.le_refl _) _
  obtain ⟨-, r0, -⟩ := settRows hb0
  go_enter Tryd.func131, Tryd.ntmps131
  go_wp2_with fail
  generalize w.alloc (.cells s.vals.toArray 55) = w0 at *
  refine (option_any s.mode 4095 _).mono ?_
  rintro e w1 ⟨rfl, hb⟩
  have hb1 := hb0.stays hb
  have hB1 := below_then hB0 hb
  obtain ⟨-, -, r1, -⟩ := settRows hb1
  clear hb r0 hb0 hB0
  generalize h0 : s.mode.ok 4095 = b0
  cases b0
  · have HS := Lib.hid (show s.ok = false by simp [Sett.ok, h0])
    go_wp2
    go_ret
    exact ⟨ret_bool HS.out.symm, hB1⟩
  have H0 := Lib.hid h0
  clear h0
  go_wp2_with fail
  refine (option_any s.uid 4294967295 _).mono ?_
  rintro e w2 ⟨rfl, hb⟩
  have hb2 := hb1.stays hb
  have hB2 := below_then hB1 hb
  obtain ⟨-, -, -, r2, -⟩ := settRows hb2
  clear hb r1 hb1 hB1
  generalize h1 : s.uid.ok 4294967295 = b1
  cases b1
  · have HS := Lib.hid (show s.ok = false by simp [Sett.ok, h1])
    go_wp2
    go_ret
    exact ⟨ret_bool HS.out.symm, hB2⟩
  have H1 := Lib.hid h1
  clear h1
  go_wp2_with fail
  refine (option_any s.gid 4294967295 _).mono ?_
  rintro e w3 ⟨rfl, hb⟩
  have hb3 := hb2.stays hb
  have hB3 := below_then hB2 hb
  obtain ⟨-, -, -, -, r3, -⟩ := settRows hb3
  clear hb r2 hb2 hB2
  generalize h2 : s.gid.ok 4294967295 = b2
  cases b2
  · have HS := Lib.hid (show s.ok = false by simp [Sett.ok, h2])
    go_wp2
    go_ret
    exact ⟨ret_bool HS.out.symm, hB3⟩
  have H2 := Lib.hid h2
  clear h2
  go_wp2_with fail
  refine (option_any s.size 9223372036854775807 _).mono ?_
  rintro e w4 ⟨rfl, hb⟩
  have hb4 := hb3.stays hb
  have hB4 := below_then hB3 hb
  obtain ⟨-, -, -, -, -, r4⟩ := settRows hb4
  clear hb r3 hb3 hB3
  generalize h3 : s.size.ok 9223372036854775807 = b3
  cases b3
  · have HS := Lib.hid (show s.ok = false by simp [Sett.ok, h3])
    go_wp2
    go_ret
    exact ⟨ret_bool HS.out.symm, hB4⟩
  have H3 := Lib.hid h3
  clear h3
  go_wp2_with fail
  refine (option_any s.time 9223372036854775807 _).mono ?_
  rintro e w5 ⟨rfl, hb⟩
  have hB5 := below_then hB4 hb
  go_wp2
  go_ret
  exact ⟨ret_bool (by simp [Sett.ok, H0.out, H1.out, H2.out, H3.out]), hB5⟩

set_option maxHeartbeats 1600000 in
theorem refSet_any (s : Sett) (w : World) :
    Calls Tryd.prog 111 #[.agg s.vals.toArray] w fun e w' => e = .returned (.bool s.ok) ∧ Below w.heap.size w w' := by
  have hb0 := Blk.new w 55 s.vals
  have hB0 : Below w.heap.size w (w.alloc (.cells s.vals.toArray 55)) := (Below.refl _ _).alloc (Nat.le_refl _) _
  obtain ⟨-, r0, -⟩ := settRows hb0
  go_enter Tryd.func111, Tryd.ntmps111
  go_wp2_with fail
  generalize w.alloc (.cells s.vals.toArray 55) = w0 at *
  refine (refOption_any s.mode 4095 _).mono ?_
  rintro e w1 ⟨rfl, hb⟩
  have hb1 := hb0.stays hb
  have hB1 := below_then hB0 hb
  obtain ⟨-, -, r1, -⟩ := settRows hb1
  clear hb r0 hb0 hB0
  generalize h0 : s.mode.ok 4095 = b0
  cases b0
  · have HS := Lib.hid (show s.ok = false by simp [Sett.ok, h0])
    go_wp2
    go_ret
    exact ⟨ret_bool HS.out.symm, hB1⟩
  have H0 := Lib.hid h0
  clear h0
  go_wp2_with fail
  refine (refOption_any s.uid 4294967295 _).mono ?_
  rintro e w2 ⟨rfl, hb⟩
  have hb2 := hb1.stays hb
  have hB2 := below_then hB1 hb
  obtain ⟨-, -, -, r2, -⟩ := settRows hb2
  clear hb r1 hb1 hB1
  generalize h1 : s.uid.ok 4294967295 = b1
  cases b1
  · have HS := Lib.hid (show s.ok = false by simp [Sett.ok, h1])
    go_wp2
    go_ret
    exact ⟨ret_bool HS.out.symm, hB2⟩
  have H1 := Lib.hid h1
  clear h1
  go_wp2_with fail
  refine (refOption_any s.gid 4294967295 _).mono ?_
  rintro e w3 ⟨rfl, hb⟩
  have hb3 := hb2.stays hb
  have hB3 := below_then hB2 hb
  obtain ⟨-, -, -, -, r3, -⟩ := settRows hb3
  clear hb r2 hb2 hB2
  generalize h2 : s.gid.ok 4294967295 = b2
  cases b2
  · have HS := Lib.hid (show s.ok = false by simp [Sett.ok, h2])
    go_wp2
    go_ret
    exact ⟨ret_bool HS.out.symm, hB3⟩
  have H2 := Lib.hid h2
  clear h2
  go_wp2_with fail
  refine (refOption_any s.size 9223372036854775807 _).mono ?_
  rintro e w4 ⟨rfl, hb⟩
  have hb4 := hb3.stays hb
  have hB4 := below_then hB3 hb
  obtain ⟨-, -, -, -, -, r4⟩ := settRows hb4
  clear hb r3 hb3 hB3
  generalize h3 : s.size.ok 9223372036854775807 = b3
  cases b3
  · have HS := Lib.hid (show s.ok = false by simp [Sett.ok, h3])
    go_wp2
    go_ret
    exact ⟨ret_bool HS.out.symm, hB4⟩
  have H3 := Lib.hid h3
  clear h3
  go_wp2_with fail
  refine (refOption_any s.time 9223372036854775807 _).mono ?_
  rintro e w5 ⟨rfl, hb⟩
  have hB5 := below_then hB4 hb
  go_wp2
  go_ret
  exact ⟨ret_bool (by simp [Sett.ok, H0.out, H1.out, H2.out, H3.out]), hB5⟩

set_option maxHeartbeats 800000 in
theorem checkSet_any (s : Sett) (w : World) :
    Calls Tryd.prog 115 #[.agg s.vals.toArray] w fun e w' => e = .returned (.int .i64 (form s.ok)) ∧ Below w.heap.size w w' := by
  have hb0 := Blk.new w 55 s.vals
  have hB0 : Below w.heap.size w (w.alloc (.cells s.vals.toArray 55)) := (Below.refl _ _).alloc (Nat.le_refl _) _
  obtain ⟨r0, -⟩ := settRows hb0
  go_enter Tryd.func115, Tryd.ntmps115
  go_wp2_with fail
  refine (set_any s _).mono ?_
  rintro e w1 ⟨rfl, hb⟩
  have hB1 := below_then hB0 hb
  clear hb hb0 r0 hB0
  generalize h : s.ok = b
  have H := Lib.hid h
  clear h
  cases b
  all_goals
    go_wp2
    go_ret
    exact ⟨ret_int (by rw [H.out]; rfl), hB1⟩

end Go.Proofs.YthfhdighniiodaaDoor

/-
  Two structs of numbers, truths and texts held against each other by '==', whole. No condition.
-/
namespace Go.Proofs.YthfhdighniiodaaDoor
open Go.RowKit

inductive Leaf where
  | i (k : IntKind)
  | b
  | s
def Leaf.fits : Leaf → Value → Bool
  | .i k, .int k' _ => decide (k' = k)
  | .b, .bool _ => true
  | .s, .string _ => true
  | _, _ => false
def fits : List Leaf → List Value → Bool
  | [], [] => true
  | l :: ls, v :: vs => l.fits v && fits ls vs
  | _, _ => false
def leafsF (f : TypeId → Option (List Leaf)) : List Field → Nat → Option (List Leaf)
  | [], _ => some []
  | x :: xs, off =>
    if x.name = "_" ∨ x.offset ≠ off then none
    else match f x.type with
      | none => none
      | some l => match leafsF f xs (off + l.length) with
        | none => none
        | some r => some (l ++ r)
/-- the cells of a type of numbers, truths and texts, and of structs of such -/
def leafs (P : Program) : Nat → TypeId → Option (List Leaf)
  | 0, _ => none
  | d + 1, t =>
    match P.underlying t with
    | some .bool => some [.b]
    | some (.int k) => some [.i k]
    | some .string => some [.s]
    | some (.struct fs) =>
      if P.stoodInHeld t = true then none
      else match leafsF (leafs P d) fs.toList 0 with
        | none => none
        | some l => if P.cellsOf t = l.length then some l else none
    | _ => none
def isStruct (P : Program) (t : TypeId) : Bool := match P.underlying t with | some (.struct _) => true | _ => false
def valOf (P : Program) (t : TypeId) (xs : List Value) : Value := if isStruct P t then .agg xs.toArray else xs.headD undef

theorem fits_len : ∀ {ls : List Leaf} {xs : List Value}, fits ls xs = true → xs.length = ls.length
  | [], [], _ => rfl
  | [], _ :: _, h => by simp [fits] at h
  | _ :: _, [], h => by simp [fits] at h
  | _ :: _, _ :: _, h => by
    simp only [fits, Bool.and_eq_true] at h
    simp [fits_len h.2]
theorem fits_split : ∀ {a b : List Leaf} {xs : List Value}, fits (a ++ b) xs = true → fits a (xs.take a.length) = true ∧ fits b (xs.drop a.length) = true
  | [], _, _, h => ⟨rfl, by simpa using h⟩
  | _ :: _, _, [], h => by simp [fits] at h
  | _ :: a, b, _ :: xs, h => by
    simp only [List.cons_append, fits, Bool.and_eq_true] at h
    have := fits_split h.2
    simp only [List.length_cons, List.take_succ_cons, List.drop_succ_cons, fits, Bool.and_eq_true]
    exact ⟨⟨h.1, this.1⟩, this.2⟩
def EqOk (P : Program) (d : Nat) (t : TypeId) (ls : List Leaf) : Prop :=
  ∀ (w : World) (xs ys : List Value), fits ls xs = true → fits ls ys = true → ∃ r : Bool, (Op.equalIn d t (valOf P t xs) (valOf P t ys)).run P w = .ok r w ∧ (r = true ↔ xs = ys)

theorem leafs_len {P : Program} {d : Nat} {t : TypeId} {ls : List Leaf} (h : leafs P d t = some ls) : (isStruct P t = true → P.cellsOf t = ls.length) ∧ (isStruct P t = false → ls.length = 1) := by
  cases d with
  | zero => simp [leafs] at h
  | succ d =>
    unfold leafs at h
    unfold isStruct
    cases hu : P.underlying t with
    | none => simp [hu] at h
    | some k =>
      cases k <;> simp only [hu] at h <;> try (cases h; done)
      all_goals first
        | (split at h
           · cases h
           · split at h
             · cases h
             · split at h
               · rename_i hc
                 cases h
                 exact ⟨fun _ => hc, (fun h => by cases h)⟩
               · cases h)
        | (cases h; exact ⟨(fun h => by cases h), fun _ => rfl⟩)

theorem run_partL {P : Program} (w : World) {d : Nat} {t : TypeId} {ls : List Leaf} (h : leafs P d t = some ls) (xs : List Value) (off : Nat) (hf : fits ls ((xs.drop off).take ls.length) = true) :
    (part t xs.toArray off).run P w = .ok (valOf P t ((xs.drop off).take ls.length)) w := by
  obtain ⟨h1, h2⟩ := leafs_len h
  have hl := fits_len hf
  unfold valOf
  cases hs : isStruct P t with
  | true =>
    have hc := h1 hs
    unfold isStruct at hs
    split at hs
    · rename_i fs hu
      obtain ⟨i, hi⟩ := info_of_underlying hu
      simp [part, isAgg, run_underlying hu, run_sizeOf w hi, hc, List.extract]
    · cases hs
  | false =>
    have hc := h2 hs
    rw [hc] at hl ⊢
    obtain ⟨v, hv⟩ : ∃ v, (xs.drop off).take 1 = [v] := by
      cases hx : (xs.drop off).take 1 with
      | nil => rw [hx] at hl; cases hl
      | cons v r =>
        rw [hx] at hl
        cases r with
        | nil => exact ⟨v, rfl⟩
        | cons _ _ => simp at hl
    have hget : xs.toArray[off]? = some v := by
      have : ((xs.drop off).take 1)[0]? = some v := by rw [hv]; rfl
      simpa using this
    have hp : P.plainKey t = true := by
      cases d with
      | zero => simp [leafs] at h
      | succ d =>
        unfold leafs at h
        unfold Program.plainKey
        unfold isStruct at hs
        cases hu : P.underlying t with
        | none => simp [hu] at h
        | some k => cases k <;> simp_all
    rw [hv]
    exact run_part_plain w hp hget

theorem eqFieldsL {P : Program} (d e : Nat) (IH : ∀ t ls, leafs P d t = some ls → EqOk P (e + d) t ls) (xs ys : List Value) : ∀ (fs : List Field) (off : Nat) (ls : List Leaf), leafsF (leafs P d) fs off = some ls →
    fits ls (xs.drop off) = true → fits ls (ys.drop off) = true → ∀ w : World, ∃ r : Bool, (Op.eqFields (e + d) xs.toArray ys.toArray fs).run P w = .ok r w ∧ (r = true ↔ xs.drop off = ys.drop off)
  | [], off, ls, h, hx, hy, w => by
    simp only [leafsF, Option.some.injEq] at h
    subst h
    have hx := fits_len hx
    have hy := fits_len hy
    refine ⟨true, by simp [Op.eqFields], ?_⟩
    rw [List.eq_nil_of_length_eq_zero hx, List.eq_nil_of_length_eq_zero hy]
    simp
  | f :: fs, off, ls, h, hx, hy, w => by
    unfold leafsF at h
    split at h
    · cases h
    · rename_i hn
      have hn1 : f.name ≠ "_" := fun hh => hn (.inl hh)
      have hn2 : f.offset = off := Classical.not_not.1 fun hh => hn (.inr hh)
      split at h
      · cases h
      · rename_i l hl
        split at h
        · cases h
        · rename_i r hr
          cases h
          have sx := fits_split hx
          have sy := fits_split hy
          rw [List.drop_drop] at sx sy
          obtain ⟨b, hb, hbe⟩ := IH _ _ hl w _ _ sx.1 sy.1
          obtain ⟨c, hc, hce⟩ := eqFieldsL d e IH xs ys fs _ r hr sx.2 sy.2 w
          have p1 := run_partL w hl xs off sx.1
          have p2 := run_partL w hl ys off sy.1
          have cut : xs.drop off = ys.drop off ↔ (xs.drop off).take l.length = (ys.drop off).take l.length ∧ xs.drop (off + l.length) = ys.drop (off + l.length) := by
            rw [← List.drop_drop, ← List.drop_drop]
            constructor
            · intro h; rw [h]; exact ⟨rfl, rfl⟩
            · rintro ⟨h1, h2⟩
              rw [← List.take_append_drop l.length (xs.drop off), h1, h2, List.take_append_drop]
          cases b with
          | false =>
            refine ⟨false, by simp [Op.eqFields, hn1, hn2, p1, p2, hb], ?_⟩
            rw [cut, ← hbe]
            simp
          | true =>
            refine ⟨c, by simp [Op.eqFields, hn1, hn2, p1, p2, hb, hc], ?_⟩
            rw [cut, ← hbe, ← hce]
            simp

theorem equalInL {P : Program} (e : Nat) : ∀ (d : Nat) (t : TypeId) (ls : List Leaf), leafs P d t = some ls → EqOk P (e + d) t ls
  | 0, _, _, h => by simp [leafs] at h
  | d + 1, t, ls, h => by
    intro w xs ys hx hy
    have IH := equalInL (P := P) e d
    have lx := fits_len hx
    have ly := fits_len hy
    unfold leafs at h
    cases hu : P.underlying t with
    | none => simp [hu] at h
    | some k =>
      cases k <;> simp only [hu] at h <;> try (cases h; done)
      case struct fs =>
        split at h
        · cases h
        · rename_i hst
          split at h
          · cases h
          · rename_i l hl
            split at h
            · cases h
              have hs : isStruct P t = true := by simp [isStruct, hu]
              obtain ⟨r, hr, hre⟩ := eqFieldsL d e IH xs ys fs.toList 0 ls hl (by simpa using hx) (by simpa using hy) w
              refine ⟨r, ?_, by simpa using hre⟩
              unfold valOf
              rw [hs, if_pos rfl, if_pos rfl]
              have hf : P.fieldsOf t = fs := by simp [Program.fieldsOf, hu]
              rw [show e + (d + 1) = (e + d) + 1 by omega, run_equalIn_struct w (e + d) t xs.toArray ys.toArray (by rw [hf]; exact hu) (by simpa using hst), hf]
              exact hr
            · cases h
      all_goals
        cases h
        have hs : isStruct P t = false := by simp [isStruct, hu]
        obtain ⟨x, rfl⟩ : ∃ x, xs = [x] := by
          match xs, lx with
          | [x], _ => exact ⟨x, rfl⟩
        obtain ⟨y, rfl⟩ : ∃ y, ys = [y] := by
          match ys, ly with
          | [y], _ => exact ⟨y, rfl⟩
        simp only [fits, Bool.and_true] at hx hy
        unfold valOf
        rw [hs]
        rw [show e + (d + 1) = (e + d) + 1 by omega]
        cases x <;> simp only [Leaf.fits, Bool.false_eq_true, decide_eq_true_eq] at hx
        cases y <;> simp only [Leaf.fits, Bool.false_eq_true, decide_eq_true_eq] at hy
      case bool => exact ⟨_, run_equalIn_bool' w (e + d) t _ _ hu, by simp⟩
      case int =>
        subst hx; subst hy
        exact ⟨_, run_equalIn_int w (e + d) t _ _ _ _ hu, by simp⟩
      case string =>
        refine ⟨_, run_equalIn_string w (e + d) t _ _ hu, ?_⟩
        rw [beq_iff_eq, ByteArray.toList_eq, ByteArray.toList_eq]
        constructor
        · intro h
          congr 2
          exact ByteArray.ext (Array.toList_inj.1 h)
        · intro h
          simp only [List.cons.injEq, Value.string.injEq, and_true] at h
          rw [h]

/-- the same cells -/
theorem eql_same {P : Program} {t : TypeId} {ls : List Leaf} (h : leafs P 8 t = some ls) (hs : isStruct P t = true) (w : World) (xs ys : List Value) (hx : fits ls xs = true) (he : xs = ys) :
    (binOp .eql t (.agg xs.toArray) (.agg ys.toArray)).run P w = .ok (.bool true) w := by
  subst he
  obtain ⟨r, hr, hre⟩ := equalInL (P := P) 9992 8 t ls h w xs xs hx hx
  unfold valOf at hr
  rw [hs, if_pos rfl] at hr
  rw [run_eql_struct, hr, hre.2 rfl]
  rfl
theorem eql_other {P : Program} {t : TypeId} {ls : List Leaf} (h : leafs P 8 t = some ls) (hs : isStruct P t = true) (w : World) (xs ys : List Value) (hx : fits ls xs = true) (hy : fits ls ys = true) (he : xs ≠ ys) :
    (binOp .eql t (.agg xs.toArray) (.agg ys.toArray)).run P w = .ok (.bool false) w := by
  obtain ⟨r, hr, hre⟩ := equalInL (P := P) 9992 8 t ls h w xs ys hx hy
  unfold valOf at hr
  rw [hs, if_pos rfl, if_pos rfl] at hr
  cases r with
  | true => exact absurd (hre.1 rfl) he
  | false => rw [run_eql_struct, hr]; rfl
theorem neq_same {P : Program} {t : TypeId} {ls : List Leaf} (h : leafs P 8 t = some ls) (hs : isStruct P t = true) (w : World) (xs ys : List Value) (hx : fits ls xs = true) (he : xs = ys) :
    (binOp .neq t (.agg xs.toArray) (.agg ys.toArray)).run P w = .ok (.bool false) w := by
  subst he
  obtain ⟨r, hr, hre⟩ := equalInL (P := P) 9992 8 t ls h w xs xs hx hx
  unfold valOf at hr
  rw [hs, if_pos rfl] at hr
  rw [run_neq_struct, hr, hre.2 rfl]
  rfl
theorem neq_other {P : Program} {t : TypeId} {ls : List Leaf} (h : leafs P 8 t = some ls) (hs : isStruct P t = true) (w : World) (xs ys : List Value) (hx : fits ls xs = true) (hy : fits ls ys = true) (he : xs ≠ ys) :
    (binOp .neq t (.agg xs.toArray) (.agg ys.toArray)).run P w = .ok (.bool true) w := by
  obtain ⟨r, hr, hre⟩ := equalInL (P := P) 9992 8 t ls h w xs ys hx hy
  unfold valOf at hr
  rw [hs, if_pos rfl, if_pos rfl] at hr
  cases r with
  | true => exact absurd (hre.1 rfl) he
  | false => rw [run_neq_struct, hr]; rfl
end Go.Proofs.YthfhdighniiodaaDoor


/-
  Layer 5, walks: whether attributes, or none, and what was ahead and behind, may be. No condition.
-/
namespace Go.Proofs.YthfhdighniiodaaDoor
open Go.RowKit
attribute [local go_sem ↓] Go.wp_at_zero Go.wp_at_succ
attribute [local go_sem] rowAt_ptr rowOf_drew rowOf_drewN rowOf_alloc_past rowOf_new
attribute [local go_sem ↓] ldAttrR ldOpt ldSet

attribute [local go_sem] Attr.at0 Attr.lat0 Attr.at1 Attr.lat1 Attr.at2 Attr.lat2 Attr.at3 Attr.lat3 Attr.at4 Attr.lat4 Attr.at5 Attr.lat5 Attr.at6 Attr.lat6 Attr.at7 Attr.lat7 Attr.at8 Attr.lat8 Attr.at9 Attr.lat9 Attr.sub0_10 Attr.lsub0_10 Attr.len Opt.at0 Opt.lat0 Opt.at1 Opt.lat1 Opt.sub0_2 Opt.lsub0_2 Opt.len Sett.at0 Sett.lat0 Sett.at1 Sett.lat1 Sett.at2 Sett.lat2 Sett.at3 Sett.lat3 Sett.at4 Sett.lat4 Sett.at5 Sett.lat5 Sett.at6 Sett.lat6 Sett.at7 Sett.lat7 Sett.at8 Sett.lat8 Sett.at9 Sett.lat9 Sett.sub0_10 Sett.lsub0_10 Sett.sub0_2 Sett.lsub0_2 Sett.sub2_2 Sett.lsub2_2 Sett.sub4_2 Sett.lsub4_2 Sett.sub6_2 Sett.lsub6_2 Sett.sub8_2 Sett.lsub8_2 Sett.len Post.at0 Post.lat0 Post.at1 Post.lat1 Post.at2 Post.lat2 Post.at3 Post.lat3 Post.at4 Post.lat4 Post.at5 Post.lat5 Post.at6 Post.lat6 Post.at7 Post.lat7 Post.at8 Post.lat8 Post.at9 Post.lat9 Post.at10 Post.lat10 Post.sub0_11 Post.lsub0_11 Post.sub1_10 Post.lsub1_10 Post.len Wcc.at0 Wcc.lat0 Wcc.at1 Wcc.lat1 Wcc.at2 Wcc.lat2 Wcc.at3 Wcc.lat3 Wcc.at4 Wcc.lat4 Wcc.at5 Wcc.lat5 Wcc.at6 Wcc.lat6 Wcc.at7 Wcc.lat7 Wcc.at8 Wcc.lat8 Wcc.at9 Wcc.lat9 Wcc.at10 Wcc.lat10 Wcc.at11 Wcc.lat11 Wcc.at12 Wcc.lat12 Wcc.sub0_13 Wcc.lsub0_13 Wcc.sub0_2 Wcc.lsub0_2 Wcc.sub2_11 Wcc.lsub2_11 Wcc.sub3_10 Wcc.lsub3_10 Wcc.len

def limits (a : Attr) : List (Int × Int) := [(a.type, 7), (a.mode, 4095), (a.nlink, 4294967295), (a.uid, 4294967295), (a.gid, 4294967295), (a.id, 4294967295), (a.size, 9223372036854775807), (a.gen, 9223372036854775807), (a.change, 9223372036854775807), (a.time, 9223372036854775807)]
theorem limits_ok (a : Attr) (hg : a.good) (h1 : 1 ≤ a.type) : (limits a).all inLim = a.ok := by
  obtain ⟨-, -, -, -, -, g5, -, g7, g8, g9⟩ := hg
  have g5 := (Go.bounds_i64 g5).2
  have g7 := (Go.bounds_i64 g7).2
  have g8 := (Go.bounds_i64 g8).2
  have g9 := (Go.bounds_i64 g9).2
  simp [limits, inLim, okN, Attr.ok]
  grind
theorem free5_any (n : Int) (w : World) : Calls Tryd.prog 123 #[.int .i64 n] w fun e w' => e = .returned (.agg #[.int .i64 n, .int .i64 9223372036854775807]) ∧ Below w.heap.size w w' := by
  go_enter Tryd.func123, Tryd.ntmps123
  go_wp2
  exact ret_cells w.heap.size 0 (limV (n, 9223372036854775807)) Tryd.results123 Tryd.underlying147 rfl (by kernel_rfl) rfl (range_new _ _ _) rfl ⟨rfl, (Below.refl _ _).alloc (Nat.le_refl _) _⟩

set_option maxRecDepth 20000 in
set_option maxHeartbeats 1000000 in
theorem check5_any (a : Attr) (w : World) (hg : a.good) : Calls Tryd.prog 99 #[.agg a.vals.toArray] w fun e w' => e = .returned (.int .i64 (form a.ok)) ∧ Below w.heap.size w w' := by
  have hB0 : Below w.heap.size w (w.alloc (.cells a.vals.toArray 42)) := (Below.refl _ _).alloc (Nat.le_refl _) _
  have hz : w.heap.size < (w.alloc (.cells a.vals.toArray 42)).heap.size := by simp
  by_cases h1 : a.type < 1
  · have HS := Lib.hid (show a.ok = false by simp [Attr.ok]; omega)
    have hd : decide (a.type < 1) = true := by simpa using h1
    go_enter Tryd.func99, Tryd.ntmps99
    go_wp2
    go_quiet (fail)
    go_wp2
    go_ret
    exact ⟨ret_int (by rw [HS.out]; rfl), hB0.trans (bdN (Below.refl _ _) _)⟩
  · have hd : decide (a.type < 1) = false := by simpa using h1
    have HL := Lib.hid (limits_ok a hg (by omega))
    have c0 := (Blk.new w 42 a.vals).cell
    go_enter Tryd.func99, Tryd.ntmps99
    go_wp2
    generalize w.alloc (.cells a.vals.toArray 42) = w1 at *
    go_region_held3 (fun W => Stb w1 W) (first | exact Stb.start | assumption | (exact Stb.alloc (by assumption) _) | (exact Stb.call (by assumption) (by assumption))) (first
      | (go_at_call 123; refine (free5_any _ _).mono ?_; rintro e w2 ⟨rfl, hb⟩)
      | (go_at_call 122; refine (within_any (some ⟨_, 0, none⟩) 10 (limits a) _ (show (10 : Nat) ≤ 1000000 by omega) (by exact At.fresh _ _ _ _ ((limits a).map limV) (by simp [limits, limV]) rfl)).mono ?_; rintro e w3 ⟨rfl, hb⟩))
    have hs := (by assumption : Stb w1 w3)
    have HB := Lib.hid (below_then hB0 hs.below)
    rw [HL.out]
    clear hs
    cases ho : a.ok
    all_goals
      have HO := Lib.hid ho
      clear ho
      go_wp2
      go_ret
      exact ⟨ret_int (by rw [HO.out]; rfl), HB.out⟩
end Go.Proofs.YthfhdighniiodaaDoor
