/-
  Layer 5, walks: whether options may be, by the program and by the reference. No condition.
-/
import Derived.Test.YtapcjojlkeaadaaGreatDoorProg
import Derived.Test.YtapcjojlkeaadaaGreatDoorP08
import Derived.Test.YtapcjojlkeaadaaGreatDoorP03
import Derived.OpenShut
import Derived.Test.YtapcjojlkeaadaaGreatDoorP01
import Derived.DeepKeys
namespace Go.Proofs.YtapcjojlkeaadaaGreatDoor
open Go.RowKit
attribute [local go_sem ↓] Go.wp_at_zero Go.wp_at_succ

def limV (p : Int × Int) : List Value := [.int .i64 p.1, .int .i64 p.2]
theorem limV_one (p : Int × Int) : ∀ v ∈ limV p, v.oneCell' = true := by
  intro v hv
  unfold limV at hv
  simp only [List.mem_cons, List.not_mem_nil, or_false] at hv
  rcases hv with rfl | rfl <;> rfl
theorem infoLimit : (Tryz.prog.info? 151).map (fun i => (i.zero, i.size)) = some (some (.agg #[.int .i64 0, .int .i64 0]), 2) := by kernel_rfl
def inLim (p : Int × Int) : Bool := okN p.1 p.2
theorem all_step {α : Type} {p : α → Bool} {l : List α} {k : Nat} (hk : k < l.length) (hn : (l.take k).all p = true) (h : p l[k] = true) : (l.take (k + 1)).all p = true := by
  rw [take_next _ _ hk, List.all_append, hn]; simp [h]
theorem all_hit {α : Type} {p : α → Bool} {l : List α} {k : Nat} (hk : k < l.length) (h : p l[k] = false) : l.all p = false :=
  List.all_eq_false.2 ⟨_, List.getElem_mem hk, by simp [h]⟩
theorem all_end {α : Type} {p : α → Bool} {l : List α} {k : Nat} (hk : l.length ≤ k) (hn : (l.take k).all p = true) : l.all p = true := by
  rwa [List.take_of_length_le hk] at hn

set_option maxHeartbeats 800000 in
theorem within_any (A : Option Addr) (c : Nat) (ls : List (Int × Int)) (w : World) (hl : ls.length ≤ 1000000) (hA : At w 2 A (ls.map limV)) :
    Calls Tryz.prog 114 #[.slice A ls.length c] w fun e w' => e = .returned (.bool (ls.all inLim)) ∧ Below w.heap.size w w' := by
  go_enter Tryz.func114, Tryz.ntmps114
  go_wp2
  go_loopw [7] (fun i wr => ∃ k : Nat, k ≤ ls.length ∧ i = .int .i64 k ∧ (ls.take k).all inLim = true ∧ Below w.heap.size w wr) (fun i _ => ls.length - (intOf i).toNat)
  case atStart => exact ⟨0, Nat.zero_le _, rfl, rfl, Below.refl _ _⟩
  case round =>
    obtain ⟨k, hk, rfl, hn, hB⟩ := hrel
    by_cases hlt : k < ls.length
    · obtain ⟨b, off, rfl, hb, hc⟩ := (hA.below hB).getD (k := k) (by simpa using hlt)
      have hc' : ∀ j u, (limV ls[k])[j]? = some u → wr.cell? ⟨b, off + k * 2 + j, none⟩ = some u := fun j u hu => hc j u (by simpa using hu)
      have hr0 := range_new wr (limV ls[k]) 151 0 _ rfl
      have hr1 := range_new wr (limV ls[k]) 151 1 _ rfl
      have hB1 := hB.alloc hB.size (.cells (limV ls[k]).toArray 151)
      by_cases h : inLim ls[k] = true
      · have HS := Lib.hid (all_step hlt hn h)
        simp only [inLim, okN, Bool.and_eq_true, decide_eq_true_eq] at h
        obtain ⟨h1, h2⟩ := h
        clear hc hn
        go_wp2_with (first
          | (refine wpList_load_mid (by rfl) 151 _ (by rfl) _ _ (by rfl) _ _ (by exact hc') Tryz.underlying151 (by rfl) (by kernel_rfl) ?_)
          | (refine wpList_new_struct (by rfl) (by rfl) 151 (by rfl) _ _ (by rfl) (limV ls[k]) infoLimit (by rfl) (by rfl) (limV_one _) (by rfl) (by rfl) ?_)
          | fail)
        go_roundw
        case rel => exact ⟨k + 1, by omega, by go_num, HS.out, hB1⟩
        case measure => simp [intOf]; omega
      · rw [Bool.not_eq_true] at h
        have HS := Lib.hid (all_hit hlt h)
        simp only [inLim, okN, Bool.and_eq_false_iff, decide_eq_false_iff_not] at h
        clear hc hn
        by_cases h0 : ls[k].1 < 0
        · go_wp2_with (first
            | (refine wpList_load_mid (by rfl) 151 _ (by rfl) _ _ (by rfl) _ _ (by exact hc') Tryz.underlying151 (by rfl) (by kernel_rfl) ?_)
            | (refine wpList_new_struct (by rfl) (by rfl) 151 (by rfl) _ _ (by rfl) (limV ls[k]) infoLimit (by rfl) (by rfl) (limV_one _) (by rfl) (by rfl) ?_)
            | fail)
          go_ret
          exact ⟨ret_bool HS.out.symm, hB1⟩
        · have h2 : ls[k].2 < ls[k].1 := by rcases h with h | h <;> omega
          go_wp2_with (first
            | (refine wpList_load_mid (by rfl) 151 _ (by rfl) _ _ (by rfl) _ _ (by exact hc') Tryz.underlying151 (by rfl) (by kernel_rfl) ?_)
            | (refine wpList_new_struct (by rfl) (by rfl) 151 (by rfl) _ _ (by rfl) (limV ls[k]) infoLimit (by rfl) (by rfl) (limV_one _) (by rfl) (by rfl) ?_)
            | fail)
          go_ret
          exact ⟨ret_bool HS.out.symm, hB1⟩
    · have HE := Lib.hid (all_end (by omega) hn)
      clear hn hA
      go_wp2
      go_ret
      exact ⟨ret_bool HE.out.symm, hB⟩

set_option maxHeartbeats 800000 in
theorem option_any (o : Opt) (most : Int) (w : World) :
    Calls Tryz.prog 104 #[.agg o.vals.toArray, .int .i64 most] w fun e w' => e = .returned (.bool (o.ok most)) ∧ Below w.heap.size w w' := by
  have hr := range_new w o.vals 29
  have hc0 := hr 0 _ rfl
  have hc1 := hr 1 _ rfl
  have hB0 : Below w.heap.size w (w.alloc (.cells o.vals.toArray 29)) := (Below.refl _ _).alloc (Nat.le_refl _) _
  clear hr
  obtain ⟨is, n⟩ := o
  unfold Opt.vals at *
  cases is
  · go_enter Tryz.func104, Tryz.ntmps104
    go_wp2
    go_ret
    exact ⟨rfl, hB0⟩
  · have hA : At ((w.alloc (.cells #[.bool true, .int .i64 n] 29)).alloc (.cells #[.int .i64 n, .int .i64 most] 151)) 2 (some ⟨w.heap.size + 1, 0, none⟩) [limV (n, most)] := At.fresh _ _ _ _ _ (by simp [limV]) (by simp)
    have HA := Lib.hid hA
    clear hA
    have hB1 := hB0.alloc hB0.size (.cells #[.int .i64 n, .int .i64 most] 151)
    go_enter Tryz.func104, Tryz.ntmps104
    go_wp2_with fail
    refine (within_any (some ⟨w.heap.size + 1, 0, none⟩) 1 [(n, most)] _ (by simp) HA.out).mono ?_
    rintro e w2 ⟨rfl, hb⟩
    have HB := Lib.hid (below_then hB1 hb)
    clear hb
    go_wp2
    go_ret
    exact ⟨ret_bool (by simp [Opt.ok, inLim]), HB.out⟩

theorem refIn_any (n most : Int) (w : World) :
    Calls Tryz.prog 113 #[.int .i64 n, .int .i64 most] w fun e w' => e = .returned (.bool (okN n most)) ∧ w = w' := by
  by_cases h : 0 ≤ n
  · have HS := Lib.hid (show okN n most = decide (n ≤ most) by simp [okN, h])
    go_enter Tryz.func113, Tryz.ntmps113
    go_wp2
    go_ret
    exact ⟨ret_bool HS.out.symm, rfl⟩
  · have HS := Lib.hid (show okN n most = false by simp [okN]; omega)
    go_enter Tryz.func113, Tryz.ntmps113
    go_wp2
    go_ret
    exact ⟨ret_bool HS.out.symm, rfl⟩

set_option maxHeartbeats 800000 in
theorem refOption_any (o : Opt) (most : Int) (w : World) :
    Calls Tryz.prog 102 #[.agg o.vals.toArray, .int .i64 most] w fun e w' => e = .returned (.bool (o.ok most)) ∧ Below w.heap.size w w' := by
  have hr := range_new w o.vals 29
  have hc0 := hr 0 _ rfl
  have hc1 := hr 1 _ rfl
  have hB0 : Below w.heap.size w (w.alloc (.cells o.vals.toArray 29)) := (Below.refl _ _).alloc (Nat.le_refl _) _
  clear hr
  obtain ⟨is, n⟩ := o
  unfold Opt.vals at *
  cases is
  · go_enter Tryz.func102, Tryz.ntmps102
    go_wp2
    go_ret
    exact ⟨rfl, hB0⟩
  · go_enter Tryz.func102, Tryz.ntmps102
    go_wp2_with fail
    refine (refIn_any n most _).mono ?_
    rintro e w2 ⟨rfl, rfl⟩
    go_wp2
    go_ret
    exact ⟨rfl, hB0⟩

end Go.Proofs.YtapcjojlkeaadaaGreatDoor

/-
  Layer 5, walks: what may be set, by the program and by the reference; whether nothing is to be set. No condition.
-/
namespace Go.Proofs.YtapcjojlkeaadaaGreatDoor
open Go.RowKit
attribute [local go_sem ↓] Go.wp_at_zero Go.wp_at_succ

theorem ldOpt {ρ : Operand → Value} {w : World} {dst : Option Tmp} {ty : TypeId} {pos : String} {after : Array Edge} {g : Option (Nat × Bool)} {x : Operand} (h : (rowAt w 2 (ρ x)).isSome = true) :
    (execOp ρ ⟨dst, .load 29 x, ty, pos, after, g⟩).run Tryz.prog w = .ok (.value (.agg ((rowAt w 2 (ρ x)).getD #[]))) w := ex_load 29 2 Tryz.underlying29 rfl (by kernel_rfl) h
attribute [local go_sem ↓] ldOpt

attribute [local go_sem] rowAt_ptr rowOf_drew rowOf_drewN

end Go.Proofs.YtapcjojlkeaadaaGreatDoor


/-
  Two structs of numbers, truths and texts held against each other by '==', whole. No condition.
-/
namespace Go.Proofs.YtapcjojlkeaadaaGreatDoor
open Go.RowKit

inductive Leaf where
  | i (k : IntKind)
  | b
  | s
def Leaf.fits : Leaf → Value → Bool
  | .i k, .int k' _ => decide (k' = k)
  | .b, .bool _ => true
  | .s, .string _ => true
  | _, _ => false
def fits : List Leaf → List Value → Bool
  | [], [] => true
  | l :: ls, v :: vs => l.fits v && fits ls vs
  | _, _ => false
def leafsF (f : TypeId → Option (List Leaf)) : List Field → Nat → Option (List Leaf)
  | [], _ => some []
  | x :: xs, off =>
    if x.name = "_" ∨ x.offset ≠ off then none
    else match f x.type with
      | none => none
      | some l => match leafsF f xs (off + l.length) with
        | none => none
        | some r => some (l ++ r)
/-- the cells of a type of numbers, truths and texts, and of structs of such -/
def leafs (P : Program) : Nat → TypeId → Option (List Leaf)
  | 0, _ => none
  | d + 1, t =>
    match P.underlying t with
    | some .bool => some [.b]
    | some (.int k) => some [.i k]
    | some .string => some [.s]
    | some (.struct fs) =>
      if P.stoodInHeld t = true then none
      else match leafsF (leafs P d) fs.toList 0 with
        | none => none
        | some l => if P.cellsOf t = l.length then some l else none
    | _ => none
def isStruct (P : Program) (t : TypeId) : Bool := match P.underlying t with | some (.struct _) => true | _ => false
def valOf (P : Program) (t : TypeId) (xs : List Value) : Value := if isStruct P t then .agg xs.toArray else xs.headD undef

theorem fits_len : ∀ {ls : List Leaf} {xs : List Value}, fits ls xs = true → xs.length = ls.length
  | [], [], _ => rfl
  | [], _ :: _, h => by simp [fits] at h
  | _ :: _, [], h => by simp [fits] at h
  | _ :: _, _ :: _, h => by
    simp only [fits, Bool.and_eq_true] at h
    simp [fits_len h.2]
theorem fits_split : ∀ {a b : List Leaf} {xs : List Value}, fits (a ++ b) xs = true → fits a (xs.take a.length) = true ∧ fits b (xs.drop a.length) = true
  | [], _, _, h => ⟨rfl, by simpa using h⟩
  | _ :: _, _, [], h => by simp [fits] at h
  | _ :: a, b, _ :: xs, h => by
    simp only [List.cons_append, fits, Bool.and_eq_true] at h
    have := fits_split h.2
    simp only [List.length_cons, List.take_succ_cons, List.drop_succ_cons, fits, Bool.and_eq_true]
    exact ⟨⟨h.1, this.1⟩, this.2⟩
def EqOk (P : Program) (d : Nat) (t : TypeId) (ls : List Leaf) : Prop :=
  ∀ (w : World) (xs ys : List Value), fits ls xs = true → fits ls ys = true → ∃ r : Bool, (Op.equalIn d t (valOf P t xs) (valOf P t ys)).run P w = .ok r w ∧ (r = true ↔ xs = ys)

theorem leafs_len {P : Program} {d : Nat} {t : TypeId} {ls : List Leaf} (h : leafs P d t = some ls) : (isStruct P t = true → P.cellsOf t = ls.length) ∧ (isStruct P t = false → ls.length = 1) := by
  cases d with
  | zero => simp [leafs] at h
  | succ d =>
    unfold leafs at h
    unfold isStruct
    cases hu : P.underlying t with
    | none => simp [hu] at h
    | some k =>
      cases k <;> simp only [hu] at h <;> try (cases h; done)
      all_goals first
        | (split at h
           · cases h
           · split at h
             · cases h
             · split at h
               · rename_i hc
                 cases h
                 exact ⟨fun _ => hc, (fun h => by cases h)⟩
               · cases h)
        | (cases h; exact ⟨(fun h => by cases h), fun _ => rfl⟩)

theorem run_partL {P : Program} (w : World) {d : Nat} {t : TypeId} {ls : List Leaf} (h : leafs P d t = some ls) (xs : List Value) (off : Nat) (hf : fits ls ((xs.drop off).take ls.length) = true) :
    (part t xs.toArray off).run P w = .ok (valOf P t ((xs.drop off).take ls.length)) w := by
  obtain ⟨h1, h2⟩ := leafs_len h
  have hl := fits_len hf
  unfold valOf
  cases hs : isStruct P t with
  | true =>
    have hc := h1 hs
    unfold isStruct at hs
    split at hs
    · rename_i fs hu
      obtain ⟨i, hi⟩ := info_of_underlying hu
      simp [part, isAgg, run_underlying hu, run_sizeOf w hi, hc, List.extract]
    · cases hs
  | false =>
    have hc := h2 hs
    rw [hc] at hl ⊢
    obtain ⟨v, hv⟩ : ∃ v, (xs.drop off).take 1 = [v] := by
      cases hx : (xs.drop off).take 1 with
      | nil => rw [hx] at hl; cases hl
      | cons v r =>
        rw [hx] at hl
        cases r with
        | nil => exact ⟨v, rfl⟩
        | cons _ _ => simp at hl
    have hget : xs.toArray[off]? = some v := by
      have : ((xs.drop off).take 1)[0]? = some v := by rw [hv]; rfl
      simpa using this
    have hp : P.plainKey t = true := by
      cases d with
      | zero => simp [leafs] at h
      | succ d =>
        unfold leafs at h
        unfold Program.plainKey
        unfold isStruct at hs
        cases hu : P.underlying t with
        | none => simp [hu] at h
        | some k => cases k <;> simp_all
    rw [hv]
    exact run_part_plain w hp hget

theorem eqFieldsL {P : Program} (d e : Nat) (IH : ∀ t ls, leafs P d t = some ls → EqOk P (e + d) t ls) (xs ys : List Value) : ∀ (fs : List Field) (off : Nat) (ls : List Leaf), leafsF (leafs P d) fs off = some ls →
    fits ls (xs.drop off) = true → fits ls (ys.drop off) = true → ∀ w : World, ∃ r : Bool, (Op.eqFields (e + d) xs.toArray ys.toArray fs).run P w = .ok r w ∧ (r = true ↔ xs.drop off = ys.drop off)
  | [], off, ls, h, hx, hy, w => by
    simp only [leafsF, Option.some.injEq] at h
    subst h
    have hx := fits_len hx
    have hy := fits_len hy
    refine ⟨true, by simp [Op.eqFields], ?_⟩
    rw [List.eq_nil_of_length_eq_zero hx, List.eq_nil_of_length_eq_zero hy]
    simp
  | f :: fs, off, ls, h, hx, hy, w => by
    unfold leafsF at h
    split at h
    · cases h
    · rename_i hn
      have hn1 : f.name ≠ "_" := fun hh => hn (.inl hh)
      have hn2 : f.offset = off := Classical.not_not.1 fun hh => hn (.inr hh)
      split at h
      · cases h
      · rename_i l hl
        split at h
        · cases h
        · rename_i r hr
          cases h
          have sx := fits_split hx
          have sy := fits_split hy
          rw [List.drop_drop] at sx sy
          obtain ⟨b, hb, hbe⟩ := IH _ _ hl w _ _ sx.1 sy.1
          obtain ⟨c, hc, hce⟩ := eqFieldsL d e IH xs ys fs _ r hr sx.2 sy.2 w
          have p1 := run_partL w hl xs off sx.1
          have p2 := run_partL w hl ys off sy.1
          have cut : xs.drop off = ys.drop off ↔ (xs.drop off).take l.length = (ys.drop off).take l.length ∧ xs.drop (off + l.length) = ys.drop (off + l.length) := by
            rw [← List.drop_drop, ← List.drop_drop]
            constructor
            · intro h; rw [h]; exact ⟨rfl, rfl⟩
            · rintro ⟨h1, h2⟩
              rw [← List.take_append_drop l.length (xs.drop off), h1, h2, List.take_append_drop]
          cases b with
          | false =>
            refine ⟨false, by simp [Op.eqFields, hn1, hn2, p1, p2, hb], ?_⟩
            rw [cut, ← hbe]
            simp
          | true =>
            refine ⟨c, by simp [Op.eqFields, hn1, hn2, p1, p2, hb, hc], ?_⟩
            rw [cut, ← hbe, ← hce]
            simp

theorem equalInL {P : Program} (e : Nat) : ∀ (d : Nat) (t : TypeId) (ls : List Leaf), leafs P d t = some ls → EqOk P (e + d) t ls
  | 0, _, _, h => by simp [leafs] at h
  | d + 1, t, ls, h => by
    intro w xs ys hx hy
    have IH := equalInL (P := P) e d
    have lx := fits_len hx
    have ly := fits_len hy
    unfold leafs at h
    cases hu : P.underlying t with
    | none => simp [hu] at h
    | some k =>
      cases k <;> simp only [hu] at h <;> try (cases h; done)
      case struct fs =>
        split at h
        · cases h
        · rename_i hst
          split at h
          · cases h
          · rename_i l hl
            split at h
            · cases h
              have hs : isStruct P t = true := by simp [isStruct, hu]
              obtain ⟨r, hr, hre⟩ := eqFieldsL d e IH xs ys fs.toList 0 ls hl (by simpa using hx) (by simpa using hy) w
              refine ⟨r, ?_, by simpa using hre⟩
              unfold valOf
              rw [hs, if_pos rfl, if_pos rfl]
              have hf : P.fieldsOf t = fs := by simp [Program.fieldsOf, hu]
              rw [show e + (d + 1) = (e + d) + 1 by omega, run_equalIn_struct w (e + d) t xs.toArray ys.toArray (by rw [hf]; exact hu) (by simpa using hst), hf]
              exact hr
            · cases h
      all_goals
        cases h
        have hs : isStruct P t = false := by simp [isStruct, hu]
        obtain ⟨x, rfl⟩ : ∃ x, xs = [x] := by
          match xs, lx with
          | [x], _ => exact ⟨x, rfl⟩
        obtain ⟨y, rfl⟩ : ∃ y, ys = [y] := by
          match ys, ly with
          | [y], _ => exact ⟨y, rfl⟩
        simp only [fits, Bool.and_true] at hx hy
        unfold valOf
        rw [hs]
        rw [show e + (d + 1) = (e + d) + 1 by omega]
        cases x <;> simp only [Leaf.fits, Bool.false_eq_true, decide_eq_true_eq] at hx
        cases y <;> simp only [Leaf.fits, Bool.false_eq_true, decide_eq_true_eq] at hy
      case bool => exact ⟨_, run_equalIn_bool' w (e + d) t _ _ hu, by simp⟩
      case int =>
        subst hx; subst hy
        exact ⟨_, run_equalIn_int w (e + d) t _ _ _ _ hu, by simp⟩
      case string =>
        refine ⟨_, run_equalIn_string w (e + d) t _ _ hu, ?_⟩
        rw [beq_iff_eq, ByteArray.toList_eq, ByteArray.toList_eq]
        constructor
        · intro h
          congr 2
          exact ByteArray.ext (Array.toList_inj.1 h)
        · intro h
          simp only [List.cons.injEq, Value.string.injEq, and_true] at h
          rw [h]

/-- the same cells -/
theorem eql_same {P : Program} {t : TypeId} {ls : List Leaf} (h : leafs P 8 t = some ls) (hs : isStruct P t = true) (w : World) (xs ys : List Value) (hx : fits ls xs = true) (he : xs = ys) :
    (binOp .eql t (.agg xs.toArray) (.agg ys.toArray)).run P w = .ok (.bool true) w := by
  subst he
  obtain ⟨r, hr, hre⟩ := equalInL (P := P) 9992 8 t ls h w xs xs hx hx
  unfold valOf at hr
  rw [hs, if_pos rfl] at hr
  rw [run_eql_struct, hr, hre.2 rfl]
  rfl
theorem eql_other {P : Program} {t : TypeId} {ls : List Leaf} (h : leafs P 8 t = some ls) (hs : isStruct P t = true) (w : World) (xs ys : List Value) (hx : fits ls xs = true) (hy : fits ls ys = true) (he : xs ≠ ys) :
    (binOp .eql t (.agg xs.toArray) (.agg ys.toArray)).run P w = .ok (.bool false) w := by
  obtain ⟨r, hr, hre⟩ := equalInL (P := P) 9992 8 t ls h w xs ys hx hy
  unfold valOf at hr
  rw [hs, if_pos rfl, if_pos rfl] at hr
  cases r with
  | true => exact absurd (hre.1 rfl) he
  | false => rw [run_eql_struct, hr]; rfl
theorem neq_same {P : Program} {t : TypeId} {ls : List Leaf} (h : leafs P 8 t = some ls) (hs : isStruct P t = true) (w : World) (xs ys : List Value) (hx : fits ls xs = true) (he : xs = ys) :
    (binOp .neq t (.agg xs.toArray) (.agg ys.toArray)).run P w = .ok (.bool false) w := by
  subst he
  obtain ⟨r, hr, hre⟩ := equalInL (P := P) 9992 8 t ls h w xs xs hx hx
  unfold valOf at hr
  rw [hs, if_pos rfl] at hr
  rw [run_neq_struct, hr, hre.2 rfl]
  rfl
theorem neq_other {P : Program} {t : TypeId} {ls : List Leaf} (h : leafs P 8 t = some ls) (hs : isStruct P t = true) (w : World) (xs ys : List Value) (hx : fits ls xs = true) (hy : fits ls ys = true) (he : xs ≠ ys) :
    (binOp .neq t (.agg xs.toArray) (.agg ys.toArray)).run P w = .ok (.bool true) w := by
  obtain ⟨r, hr, hre⟩ := equalInL (P := P) 9992 8 t ls h w xs ys hx hy
  unfold valOf at hr
  rw [hs, if_pos rfl, if_pos rfl] at hr
  cases r with
  | true => exact absurd (hre.1 rfl) he
  | false => rw [run_neq_struct, hr]; rfl
end Go.Proofs.YtapcjojlkeaadaaGreatDoor
