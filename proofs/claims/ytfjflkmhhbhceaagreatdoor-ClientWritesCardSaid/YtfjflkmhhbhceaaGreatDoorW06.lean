/-
  Two structs of numbers, truths and texts held against each other by '==', whole. No condition.
-/
import Derived.Test.YtfjflkmhhbhceaaGreatDoorW02
import Derived.DeepKeys
import Derived.Test.YtfjflkmhhbhceaaGreatDoorW03
import Derived.Test.YtfjflkmhhbhceaaGreatDoorProg
import Derived.Test.YtfjflkmhhbhceaaGreatDoorW04
import Derived.Lib.SliceRun
import Derived.ArgAppend
import Derived.Laws.IdiomStrings
namespace Go.Proofs.YtfjflkmhhbhceaaGreatDoor
open Go.RowKit

inductive Leaf where
  | i (k : IntKind)
  | b
  | s
def Leaf.fits : Leaf → Value → Bool
  | .i k, .int k' _ => decide (k' = k)
  | .b, .bool _ => true
  | .s, .string _ => true
  | _, _ => false
def fits : List Leaf → List Value → Bool
  | [], [] => true
  | l :: ls, v :: vs => l.fits v && fits ls vs
  | _, _ => false
def leafsF (f : TypeId → Option (List Leaf)) : List Field → Nat → Option (List Leaf)
  | [], _ => some []
  | x :: xs, off =>
    if x.name = "_" ∨ x.offset ≠ off then none
    else match f x.type with
      | none => none
      | some l => match leafsF f xs (off + l.length) with
        | none => none
        | some r => some (l ++ r)
/-- the cells of a type of numbers, truths and texts, and of structs of such -/
def leafs (P : Program) : Nat → TypeId → Option (List Leaf)
  | 0, _ => none
  | d + 1, t =>
    match P.underlying t with
    | some .bool => some [.b]
    | some (.int k) => some [.i k]
    | some .string => some [.s]
    | some (.struct fs) =>
      if P.stoodInHeld t = true then none
      else match leafsF (leafs P d) fs.toList 0 with
        | none => none
        | some l => if P.cellsOf t = l.length then some l else none
    | _ => none
def isStruct (P : Program) (t : TypeId) : Bool := match P.underlying t with | some (.struct _) => true | _ => false
def valOf (P : Program) (t : TypeId) (xs : List Value) : Value := if isStruct P t then .agg xs.toArray else xs.headD undef

theorem fits_len : ∀ {ls : List Leaf} {xs : List Value}, fits ls xs = true → xs.length = ls.length
  | [], [], _ => rfl
  | [], _ :: _, h => by simp [fits] at h
  | _ :: _, [], h => by simp [fits] at h
  | _ :: _, _ :: _, h => by
    simp only [fits, Bool.and_eq_true] at h
    simp [fits_len h.2]
theorem fits_split : ∀ {a b : List Leaf} {xs : List Value}, fits (a ++ b) xs = true → fits a (xs.take a.length) = true ∧ fits b (xs.drop a.length) = true
  | [], _, _, h => ⟨rfl, by simpa using h⟩
  | _ :: _, _, [], h => by simp [fits] at h
  | _ :: a, b, _ :: xs, h => by
    simp only [List.cons_append, fits, Bool.and_eq_true] at h
    have := fits_split h.2
    simp only [List.length_cons, List.take_succ_cons, List.drop_succ_cons, fits, Bool.and_eq_true]
    exact ⟨⟨h.1, this.1⟩, this.2⟩
def EqOk (P : Program) (d : Nat) (t : TypeId) (ls : List Leaf) : Prop :=
  ∀ (w : World) (xs ys : List Value), fits ls xs = true → fits ls ys = true → ∃ r : Bool, (Op.equalIn d t (valOf P t xs) (valOf P t ys)).run P w = .ok r w ∧ (r = true ↔ xs = ys)

theorem leafs_len {P : Program} {d : Nat} {t : TypeId} {ls : List Leaf} (h : leafs P d t = some ls) : (isStruct P t = true → P.cellsOf t = ls.length) ∧ (isStruct P t = false → ls.length = 1) := by
  cases d with
  | zero => simp [leafs] at h
  | succ d =>
    unfold leafs at h
    unfold isStruct
    cases hu : P.underlying t with
    | none => simp [hu] at h
    | some k =>
      cases k <;> simp only [hu] at h <;> try (cases h; done)
      all_goals first
        | (split at h
           · cases h
           · split at h
             · cases h
             · split at h
               · rename_i hc
                 cases h
                 exact ⟨fun _ => hc, (fun h => by cases h)⟩
               · cases h)
        | (cases h; exact ⟨(fun h => by cases h), fun _ => rfl⟩)

theorem run_partL {P : Program} (w : World) {d : Nat} {t : TypeId} {ls : List Leaf} (h : leafs P d t = some ls) (xs : List Value) (off : Nat) (hf : fits ls ((xs.drop off).take ls.length) = true) :
    (part t xs.toArray off).run P w = .ok (valOf P t ((xs.drop off).take ls.length)) w := by
  obtain ⟨h1, h2⟩ := leafs_len h
  have hl := fits_len hf
  unfold valOf
  cases hs : isStruct P t with
  | true =>
    have hc := h1 hs
    unfold isStruct at hs
    split at hs
    · rename_i fs hu
      obtain ⟨i, hi⟩ := info_of_underlying hu
      simp [part, isAgg, run_underlying hu, run_sizeOf w hi, hc, List.extract]
    · cases hs
  | false =>
    have hc := h2 hs
    rw [hc] at hl ⊢
    obtain ⟨v, hv⟩ : ∃ v, (xs.drop off).take 1 = [v] := by
      cases hx : (xs.drop off).take 1 with
      | nil => rw [hx] at hl; cases hl
      | cons v r =>
        rw [hx] at hl
        cases r with
        | nil => exact ⟨v, rfl⟩
        | cons _ _ => simp at hl
    have hget : xs.toArray[off]? = some v := by
      have : ((xs.drop off).take 1)[0]? = some v := by rw [hv]; rfl
      simpa using this
    have hp : P.plainKey t = true := by
      cases d with
      | zero => simp [leafs] at h
      | succ d =>
        unfold leafs at h
        unfold Program.plainKey
        unfold isStruct at hs
        cases hu : P.underlying t with
        | none => simp [hu] at h
        | some k => cases k <;> simp_all
    rw [hv]
    exact run_part_plain w hp hget

theorem eqFieldsL {P : Program} (d e : Nat) (IH : ∀ t ls, leafs P d t = some ls → EqOk P (e + d) t ls) (xs ys : List Value) : ∀ (fs : List Field) (off : Nat) (ls : List Leaf), leafsF (leafs P d) fs off = some ls →
    fits ls (xs.drop off) = true → fits ls (ys.drop off) = true → ∀ w : World, ∃ r : Bool, (Op.eqFields (e + d) xs.toArray ys.toArray fs).run P w = .ok r w ∧ (r = true ↔ xs.drop off = ys.drop off)
  | [], off, ls, h, hx, hy, w => by
    simp only [leafsF, Option.some.injEq] at h
    subst h
    have hx := fits_len hx
    have hy := fits_len hy
    refine ⟨true, by simp [Op.eqFields], ?_⟩
    rw [List.eq_nil_of_length_eq_zero hx, List.eq_nil_of_length_eq_zero hy]
    simp
  | f :: fs, off, ls, h, hx, hy, w => by
    unfold leafsF at h
    split at h
    · cases h
    · rename_i hn
      have hn1 : f.name ≠ "_" := fun hh => hn (.inl hh)
      have hn2 : f.offset = off := Classical.not_not.1 fun hh => hn (.inr hh)
      split at h
      · cases h
      · rename_i l hl
        split at h
        · cases h
        · rename_i r hr
          cases h
          have sx := fits_split hx
          have sy := fits_split hy
          rw [List.drop_drop] at sx sy
          obtain ⟨b, hb, hbe⟩ := IH _ _ hl w _ _ sx.1 sy.1
          obtain ⟨c, hc, hce⟩ := eqFieldsL d e IH xs ys fs _ r hr sx.2 sy.2 w
          have p1 := run_partL w hl xs off sx.1
          have p2 := run_partL w hl ys off sy.1
          have cut : xs.drop off = ys.drop off ↔ (xs.drop off).take l.length = (ys.drop off).take l.length ∧ xs.drop (off + l.length) = ys.drop (off + l.length) := by
            rw [← List.drop_drop, ← List.drop_drop]
            constructor
            · intro h; rw [h]; exact ⟨rfl, rfl⟩
            · rintro ⟨h1, h2⟩
              rw [← List.take_append_drop l.length (xs.drop off), h1, h2, List.take_append_drop]
          cases b with
          | false =>
            refine ⟨false, by simp [Op.eqFields, hn1, hn2, p1, p2, hb], ?_⟩
            rw [cut, ← hbe]
            simp
          | true =>
            refine ⟨c, by simp [Op.eqFields, hn1, hn2, p1, p2, hb, hc], ?_⟩
            rw [cut, ← hbe, ← hce]
            simp

theorem equalInL {P : Program} (e : Nat) : ∀ (d : Nat) (t : TypeId) (ls : List Leaf), leafs P d t = some ls → EqOk P (e + d) t ls
  | 0, _, _, h => by simp [leafs] at h
  | d + 1, t, ls, h => by
    intro w xs ys hx hy
    have IH := equalInL (P := P) e d
    have lx := fits_len hx
    have ly := fits_len hy
    unfold leafs at h
    cases hu : P.underlying t with
    | none => simp [hu] at h
    | some k =>
      cases k <;> simp only [hu] at h <;> try (cases h; done)
      case struct fs =>
        split at h
        · cases h
        · rename_i hst
          split at h
          · cases h
          · rename_i l hl
            split at h
            · cases h
              have hs : isStruct P t = true := by simp [isStruct, hu]
              obtain ⟨r, hr, hre⟩ := eqFieldsL d e IH xs ys fs.toList 0 ls hl (by simpa using hx) (by simpa using hy) w
              refine ⟨r, ?_, by simpa using hre⟩
              unfold valOf
              rw [hs, if_pos rfl, if_pos rfl]
              have hf : P.fieldsOf t = fs := by simp [Program.fieldsOf, hu]
              rw [show e + (d + 1) = (e + d) + 1 by omega, run_equalIn_struct w (e + d) t xs.toArray ys.toArray (by rw [hf]; exact hu) (by simpa using hst), hf]
              exact hr
            · cases h
      all_goals
        cases h
        have hs : isStruct P t = false := by simp [isStruct, hu]
        obtain ⟨x, rfl⟩ : ∃ x, xs = [x] := by
          match xs, lx with
          | [x], _ => exact ⟨x, rfl⟩
        obtain ⟨y, rfl⟩ : ∃ y, ys = [y] := by
          match ys, ly with
          | [y], _ => exact ⟨y, rfl⟩
        simp only [fits, Bool.and_true] at hx hy
        unfold valOf
        rw [hs]
        rw [show e + (d + 1) = (e + d) + 1 by omega]
        cases x <;> simp only [Leaf.fits, Bool.false_eq_true, decide_eq_true_eq] at hx
        cases y <;> simp only [Leaf.fits, Bool.false_eq_true, decide_eq_true_eq] at hy
      case bool => exact ⟨_, run_equalIn_bool' w (e + d) t _ _ hu, by simp⟩
      case int =>
        subst hx; subst hy
        exact ⟨_, run_equalIn_int w (e + d) t _ _ _ _ hu, by simp⟩
      case string =>
        refine ⟨_, run_equalIn_string w (e + d) t _ _ hu, ?_⟩
        rw [beq_iff_eq, ByteArray.toList_eq, ByteArray.toList_eq]
        constructor
        · intro h
          congr 2
          exact ByteArray.ext (Array.toList_inj.1 h)
        · intro h
          simp only [List.cons.injEq, Value.string.injEq, and_true] at h
          rw [h]

/-- the same cells -/
theorem eql_same {P : Program} {t : TypeId} {ls : List Leaf} (h : leafs P 8 t = some ls) (hs : isStruct P t = true) (w : World) (xs ys : List Value) (hx : fits ls xs = true) (he : xs = ys) :
    (binOp .eql t (.agg xs.toArray) (.agg ys.toArray)).run P w = .ok (.bool true) w := by
  subst he
  obtain ⟨r, hr, hre⟩ := equalInL (P := P) 9992 8 t ls h w xs xs hx hx
  unfold valOf at hr
  rw [hs, if_pos rfl] at hr
  rw [run_eql_struct, hr, hre.2 rfl]
  rfl
theorem eql_other {P : Program} {t : TypeId} {ls : List Leaf} (h : leafs P 8 t = some ls) (hs : isStruct P t = true) (w : World) (xs ys : List Value) (hx : fits ls xs = true) (hy : fits ls ys = true) (he : xs ≠ ys) :
    (binOp .eql t (.agg xs.toArray) (.agg ys.toArray)).run P w = .ok (.bool false) w := by
  obtain ⟨r, hr, hre⟩ := equalInL (P := P) 9992 8 t ls h w xs ys hx hy
  unfold valOf at hr
  rw [hs, if_pos rfl, if_pos rfl] at hr
  cases r with
  | true => exact absurd (hre.1 rfl) he
  | false => rw [run_eql_struct, hr]; rfl
theorem neq_same {P : Program} {t : TypeId} {ls : List Leaf} (h : leafs P 8 t = some ls) (hs : isStruct P t = true) (w : World) (xs ys : List Value) (hx : fits ls xs = true) (he : xs = ys) :
    (binOp .neq t (.agg xs.toArray) (.agg ys.toArray)).run P w = .ok (.bool false) w := by
  subst he
  obtain ⟨r, hr, hre⟩ := equalInL (P := P) 9992 8 t ls h w xs xs hx hx
  unfold valOf at hr
  rw [hs, if_pos rfl] at hr
  rw [run_neq_struct, hr, hre.2 rfl]
  rfl
theorem neq_other {P : Program} {t : TypeId} {ls : List Leaf} (h : leafs P 8 t = some ls) (hs : isStruct P t = true) (w : World) (xs ys : List Value) (hx : fits ls xs = true) (hy : fits ls ys = true) (he : xs ≠ ys) :
    (binOp .neq t (.agg xs.toArray) (.agg ys.toArray)).run P w = .ok (.bool true) w := by
  obtain ⟨r, hr, hre⟩ := equalInL (P := P) 9992 8 t ls h w xs ys hx hy
  unfold valOf at hr
  rw [hs, if_pos rfl, if_pos rfl] at hr
  cases r with
  | true => exact absurd (hre.1 rfl) he
  | false => rw [run_neq_struct, hr]; rfl
end Go.Proofs.YtfjflkmhhbhceaaGreatDoor

/-
  Layer 9 in plain words: what messages may be, and their bytes. No condition.
-/
namespace Go.Proofs.YtfjflkmhhbhceaaGreatDoor

def num32 (n least : Int) : Bool := decide (least ≤ n) && decide (n ≤ 4294967295)
def Cred.ok (c : Cred) : Bool := decide (1 ≤ c.client) && (decide (c.client ≤ 4) && (num32 c.seq 1 && (num32 c.uid 0 && num32 c.gid 0)))
def thereP (p : Int) : Bool := decide (0 ≤ p) && decide (p ≤ 21)
def cred0 : Cred := ⟨0, 0, 0, 0⟩
def Message.may (m : Message) : Bool :=
  num32 m.xid 0 && ((m.body.length % 4 == 0) &&
    (if m.answer then (m.proc == 0) && (decide (m.cred = cred0) && (decide (0 ≤ m.accept) && (decide (m.accept ≤ 4) && ((m.accept == 0) || (m.body.isEmpty && !m.again)))))
     else thereP m.proc && (m.cred.ok && ((m.accept == 0) && !m.again))))
def Message.nums (m : Message) : List Int :=
  if m.answer then [m.xid, 1, 0, if m.again then 1 else 0, 0, m.accept]
  else [m.xid, 0, 2, 100003, 3, m.proc, 1, 16, m.cred.client, m.cred.seq, m.cred.uid, m.cred.gid, 0, 0]
def nums4 (l : List Int) : List UInt8 := l.flatMap fun n => num n.toNat 4
def Message.bytes (m : Message) : List UInt8 := nums4 m.nums ++ filled m.body
/-- why a message may not be -/
def Message.bad (m : Message) : Bool := !m.may || (decide (2048 < m.body.length) || decide (2048 < m.bytes.length))
end Go.Proofs.YtfjflkmhhbhceaaGreatDoor


/-
  Layer 9 in plain words: what bytes are a message. No condition.
-/
namespace Go.Proofs.YtfjflkmhhbhceaaGreatDoor

/-- a call, behind its Xid and its kind: n bytes, the words f 0, f 1, .., what lies behind the twelfth; none: it is given up -/
def calledG (x : Int) (n : Nat) (f : Nat → Nat) (rest : List UInt8) : Option Message :=
  if n < 4 then none else if f 0 ≠ 2 then none else if n < 8 then none else if f 1 ≠ 100003 then some ⟨x, false, false, 0, cred0, 1, []⟩
  else if n < 12 then none else if f 2 ≠ 3 then some ⟨x, false, false, 0, cred0, 2, []⟩
  else if n < 48 then none
  else if thereP (f 3) = false then some ⟨x, false, false, 0, cred0, 3, []⟩
  else if f 4 ≠ 1 ∨ f 5 ≠ 16 ∨ f 10 ≠ 0 ∨ f 11 ≠ 0 ∨ Cred.ok ⟨f 6, f 7, f 8, f 9⟩ = false ∨ n % 4 ≠ 0 then some ⟨x, false, false, 0, cred0, 4, []⟩
  else some ⟨x, false, false, f 3, ⟨f 6, f 7, f 8, f 9⟩, 0, rest⟩
/-- an answer, behind its Xid and its kind -/
def answeredG (x : Int) (n : Nat) (f : Nat → Nat) (rest : List UInt8) : Option Message :=
  if n < 16 then none else if f 0 ≠ 0 ∨ 1 < f 1 ∨ f 2 ≠ 0 ∨ n % 4 ≠ 0 then none
  else if Message.may ⟨x, true, f 1 == 1, 0, cred0, f 3, rest⟩ then some ⟨x, true, f 1 == 1, 0, cred0, f 3, rest⟩ else none
end Go.Proofs.YtfjflkmhhbhceaaGreatDoor


/-
  Layer 3, plain laws: handles' bytes, and their parts. No condition.
-/
namespace Go.Proofs.YtfjflkmhhbhceaaGreatDoor
open Go.RowKit

/-- are there such parts -/
def Parts.mayF (p : Parts) : Bool := decide ((p.kind = 1 ∨ p.kind = 2) ∧ (0 ≤ p.a ∧ p.a ≤ 4294967295) ∧ 0 ≤ p.b)
theorem Parts.mayF_iff (p : Parts) : p.mayF = true ↔ (p.kind = 1 ∨ p.kind = 2) ∧ (0 ≤ p.a ∧ p.a ≤ 4294967295) ∧ 0 ≤ p.b := by unfold Parts.mayF; exact decide_eq_true_iff
/-- their bytes -/
def fhB (p : Parts) : List UInt8 := num (p.kind.toNat * 16777216) 4 ++ num p.a.toNat 4 ++ num p.b.toNat 8
theorem fhB_len (p : Parts) : (fhB p).length = 16 := by simp [fhB, num_len]
def fhMake (p : Parts) : List UInt8 := if p.mayF then fhB p else []
end Go.Proofs.YtfjflkmhhbhceaaGreatDoor


/-
  The data of the program's package api, as plain structures, and the cells that each takes (written by wip/tools/structs.py). No condition.
-/
namespace Go.Proofs.YtfjflkmhhbhceaaGreatDoor
open Go.RowKit

structure Lim where
  space : Int
  quota : Int
  nodes : Int
  deriving DecidableEq
def Lim.vals (x : Lim) : List Value := [.int .i64 x.space, .int .i64 x.quota, .int .i64 x.nodes]
theorem Lim.len (x : Lim) : x.vals.length = 3 := rfl
theorem Lim.one (x : Lim) : ∀ v ∈ x.vals, v.oneCell' = true := by
  intro v hv
  unfold Lim.vals at hv
  simp only [List.mem_cons, List.not_mem_nil, or_false] at hv
  rcases hv with rfl | rfl | rfl <;> rfl
def Lim.good (x : Lim) : Prop := (Lit.int .i64 x.space).wf = true ∧ (Lit.int .i64 x.quota).wf = true ∧ (Lit.int .i64 x.nodes).wf = true

structure Nd where
  attr : Attr
  data : ByteArray
  verf : Int
  parent : Int
  last : Int
  ea : Option Addr
  en : Nat
  ec : Nat
def Nd.vals (x : Nd) : List Value := x.attr.vals ++ [.string x.data, .int .i64 x.verf, .int .i64 x.parent, .int .i64 x.last, .slice x.ea x.en x.ec]
theorem Nd.len (x : Nd) : x.vals.length = 15 := rfl
theorem Nd.one (x : Nd) : ∀ v ∈ x.vals, v.oneCell' = true := by
  intro v hv
  unfold Nd.vals at hv
  rcases List.mem_append.1 hv with hv | hv
  · exact Attr.one _ v hv
  · simp only [List.mem_cons, List.not_mem_nil, or_false] at hv
    rcases hv with rfl | rfl | rfl | rfl | rfl <;> rfl
def Nd.good (x : Nd) : Prop := x.attr.good ∧ x.data.size ≤ maxLen ∧ (Lit.int .i64 x.verf).wf = true ∧ (Lit.int .i64 x.parent).wf = true ∧ (Lit.int .i64 x.last).wf = true ∧ x.en ≤ maxLen


/-- a tree with its nodes' slice -/
structure Tr where
  lim : Lim
  now : Int
  gens : Int
  na : Option Addr
  nc : Nat
  ns : List Nd
def Tr.vals (t : Tr) : List Value := t.lim.vals ++ [.int .i64 t.now, .int .i64 t.gens, .slice t.na t.ns.length t.nc]
theorem Tr.len (t : Tr) : t.vals.length = 6 := rfl

end Go.Proofs.YtfjflkmhhbhceaaGreatDoor


/-
  Layer 21 in plain words: how many bytes nodes use, which number is free, what room there is. No condition.
-/
namespace Go.Proofs.YtfjflkmhhbhceaaGreatDoor
open Go.RowKit

def used (ns : List Nd) : Nat := (ns.map fun n => n.data.size).sum
def owned (ns : List Nd) (uid : Int) : Nat := used (ns.filter fun n => n.attr.uid == uid)
/-- is a number taken? -/
def taken (ns : List Nd) (id : Int) : Bool := ns.any fun n => n.attr.id == id
/-- limits that may be -/
def Lim.ok (l : Lim) : Bool := decide (0 ≤ l.space) && decide (l.space ≤ 1073741824) && decide (0 ≤ l.quota) && decide (l.quota ≤ 1073741824) && decide (1 ≤ l.nodes) && decide (l.nodes ≤ 64)
theorem Lim.bounds {l : Lim} (h : l.ok = true) : 0 ≤ l.space ∧ l.space ≤ 1073741824 ∧ 0 ≤ l.quota ∧ l.quota ≤ 1073741824 ∧ 1 ≤ l.nodes ∧ l.nodes ≤ 64 := by
  simp only [Lim.ok, Bool.and_eq_true, decide_eq_true_eq] at h; omega
def free (t : Tr) : Int := max 0 (t.lim.space - used t.ns)
def left (t : Tr) (uid : Int) : Int := if uid == 0 then free t else min (free t) (max 0 (t.lim.quota - owned t.ns uid))
def room (t : Tr) (uid more : Int) : Int := if more < 1 then 0 else if free t < more then 28 else if left t uid < more then 69 else 0
end Go.Proofs.YtfjflkmhhbhceaaGreatDoor


/-
  Layer 21, walks: the reference's sums over nodes. Conditions: at most 70 nodes, of at most 2000 bytes each.
-/
namespace Go.Proofs.YtfjflkmhhbhceaaGreatDoor
open Go.RowKit

end Go.Proofs.YtfjflkmhhbhceaaGreatDoor


/-
  Layer 21, walks: the program's sums and searches over nodes, by closures. Conditions: at most 70 nodes, of at most 2000 bytes each.
-/
namespace Go.Proofs.YtfjflkmhhbhceaaGreatDoor
open Go.RowKit

def cnt (p : Nd → Bool) (ns : List Nd) : Nat := used (ns.filter p)
end Go.Proofs.YtfjflkmhhbhceaaGreatDoor


/-
  A row of structs of the call's own: one of them is stored anew; some are cleared. Conditions: sizes.
-/
namespace Go.Proofs.YtfjflkmhhbhceaaGreatDoor
open Go.RowKit

theorem size_setCells_ (b : Nat) : ∀ (vs : List Value) (o : Nat) (w : World), (w.setCells b o vs).heap.size = w.heap.size
  | [], _, _ => rfl
  | v :: vs, o, w => by rw [World.setCells, size_setCells_ b vs]; simp [World.setCell]
theorem setAt_mid : ∀ (r m a b : List Value), m.length = r.length → setAt (a ++ (m ++ b)) a.length r = a ++ (r ++ b)
  | [], m, a, b, h => by
    obtain rfl : m = [] := List.eq_nil_of_length_eq_zero h
    rfl
  | c :: r, [], a, b, h => by simp at h
  | c :: r, x :: m, a, b, h => by
    rw [setAt]
    have e : (a ++ (x :: m ++ b)).set a.length c = (a ++ [c]) ++ (m ++ b) := by simp
    rw [e]
    have := setAt_mid r m (a ++ [c]) b (by simpa using h)
    rw [List.length_append, List.length_singleton] at this
    rw [this]
    simp
theorem Touch.setRow {F : Nat → Prop} {g : Nat} (hg : F g) : ∀ (cs : List Value) (o : Nat) {a b : World}, Touch F a b → Touch F a (b.setCells g o cs)
  | [], _, _, _, h => h
  | c :: cs, o, _, _, h => by
    rw [World.setCells]
    exact Touch.setRow hg cs (o + 1) (h.setCell (.inl hg) c)
section
variable {w w' : World} {B : Nat} {e : TypeId} {sz : Nat}
theorem ownsRow_sets {base size n g cap : Nat} : ∀ (cs xs : List Value) (o : Nat) {w : World}, w.ownsRow base e size (.slice (some ⟨g, 0, none⟩) n cap) n xs → (w.setCells g o cs).ownsRow base e size (.slice (some ⟨g, 0, none⟩) n cap) n (setAt xs o cs)
  | [], _, _, _, h => h
  | c :: cs, xs, o, _, h => by
    rw [World.setCells, setAt]
    exact ownsRow_sets cs _ (o + 1) (h.stored o c).1
/-- one row is stored anew -/
theorem RowS.put {g n cap : Nat} {pre post : List (List Value)} {m r : List Value} (h : RowS w B e sz (.slice (some ⟨g, 0, none⟩) n cap) (pre ++ m :: post)) (hr : r.length = sz) (hn : n = (pre ++ m :: post).length) :
    RowS (w.setCells g (pre.length * sz) r) B e sz (.slice (some ⟨g, 0, none⟩) n cap) (pre ++ r :: post) := by
  obtain ⟨hl, hown⟩ := h
  have hm : m.length = sz := hl m (by simp)
  have hlp : ∀ q ∈ pre, q.length = sz := fun q hq => hl q (by simp [hq])
  have hpl : pre.flatten.length = pre.length * sz := by
    clear hown hl hn
    induction pre with
    | nil => simp
    | cons q pre ih =>
      rw [List.flatten_cons, List.length_append, hlp q (by simp), ih (fun q hq => hlp q (List.mem_cons_of_mem _ hq)), List.length_cons, Nat.succ_mul]
      omega
  refine ⟨fun q hq => ?_, ?_⟩
  · rcases List.mem_append.1 hq with hq | hq
    · exact hlp q hq
    · rcases List.mem_cons.1 hq with rfl | hq
      · exact hr
      · exact hl q (by simp [hq])
  · rw [← hn] at hown
    have := ownsRow_sets r _ (pre.length * sz) hown
    have e1 : (pre ++ r :: post).length = n := by rw [hn]; simp
    have e2 : setAt (pre ++ m :: post).flatten (pre.length * sz) r = (pre ++ r :: post).flatten := by
      rw [List.flatten_append, List.flatten_cons, ← hpl, setAt_mid r m _ _ (by omega), List.flatten_append, List.flatten_cons]
    rw [e2] at this
    rw [e1]
    exact this
theorem setAt_out : ∀ (cs l : List Value) (o : Nat), l.length ≤ o → setAt l o cs = l
  | [], _, _, _ => rfl
  | c :: cs, l, o, h => by
    rw [setAt, List.set_eq_of_length_le h]
    exact setAt_out cs l (o + 1) (by omega)
/-- a row stays, whatever is stored behind it in its block -/
theorem RowS.behind {g n cap : Nat} {rows : List (List Value)} (h : RowS w B e sz (.slice (some ⟨g, 0, none⟩) n cap) rows) (hn : n = rows.length) (cs : List Value) : RowS (w.setCells g (rows.length * sz) cs) B e sz (.slice (some ⟨g, 0, none⟩) n cap) rows := by
  obtain ⟨hl, hown⟩ := h
  refine ⟨hl, ?_⟩
  subst hn
  have hx := hown.1
  have := ownsRow_sets cs _ (rows.length * sz) hown
  rwa [setAt_out _ _ _ (by omega)] at this
theorem RowS.rows {A : Option Addr} {n c : Nat} {rows : List (List Value)} (h : RowS w B e sz (.slice A n c) rows) : At w sz A rows := by
  obtain ⟨A', c', hv, hA⟩ := h.at_
  injection hv with h1 h2 h3
  subst h1
  exact hA
variable {P : Program}
/-- 'clear(s)' of n > 0 elements of sz cells each -/
theorem run_clear_rows (w : World) (t e ty : TypeId) (z : Value) (ht : P.underlying t = some (.slice e)) (hv : ∀ w, (zeroValue e).run P w = .ok z w) (hz : z.cells.size = sz) (h0 : 0 < sz) (h1 : ∀ u ∈ z.cells.toList, u.oneCell' = true) (b o n c : Nat) (hn : 0 < n)
    (hc : ∀ j, j < n * sz → (w.cell? ⟨b, o + j, none⟩).isSome = true) (hf : ∀ j, j < n * sz → w.frozen? ⟨b, o + j, none⟩ = false) :
    (Builtin.clear_ #[t] ty #[.slice (some ⟨b, o, none⟩) n c]).run P w = .ok (.tuple #[]) (w.setCells b o (Builtin.zeroCells z.cells n).toList) := by
  have hl : (Builtin.zeroCells z.cells n).toList.length = n * sz := by rw [Array.length_toList, size_zeroCells, hz]
  have hst := run_storeCells_cells (P := P) b o (Builtin.zeroCells z.cells n).toList 0 w (by rw [hl]; simpa using hc) (by rw [hl]; simpa using hf) (by
    intro v hv'
    simp only [Builtin.zeroCells, Array.toList_map, List.mem_map] at hv'
    obtain ⟨i, hi, rfl⟩ := hv'
    have hlt : i % z.cells.size < z.cells.size := Nat.mod_lt _ (by omega)
    rw [getElem!_pos z.cells _ hlt]
    exact h1 _ (by simp))
  simp only [Nat.add_zero] at hst
  obtain ⟨m, rfl⟩ : ∃ m, n = m + 1 := ⟨n - 1, by omega⟩
  simp [Builtin.clear_, run_underlying ht, hv, hst]
end
end Go.Proofs.YtfjflkmhhbhceaaGreatDoor


/-
  A row of bytes of the call's own; behind its last cell a mark may lie, as '[]byte(s)' leaves it. No condition but sizes.
-/
namespace Go.Proofs.YtfjflkmhhbhceaaGreatDoor
open Go.RowKit

/-- block g is just these cells; a mark may lie behind them -/
def BlkM (w : World) (g : Nat) (t : TypeId) (cs : List Value) : Prop := ∃ m : Nat × Nat, (m = (0, 0) ∨ cs.length ≤ m.1) ∧ w.heap[g]? = some (.cells cs.toArray t m)
section
variable {w w' : World} {g : Nat} {t : TypeId} {cs : List Value}
theorem BlkM.lt (h : BlkM w g t cs) : g < w.heap.size := by
  obtain ⟨m, _, h⟩ := h
  rcases Nat.lt_or_ge g w.heap.size with hlt | hge
  · exact hlt
  · rw [Array.getElem?_eq_none hge] at h; cases h
theorem BlkM.cell (h : BlkM w g t cs) (i : Nat) : w.cell? ⟨g, i, none⟩ = cs[i]? := by
  obtain ⟨m, _, h⟩ := h
  rw [cell_of_row w g i _ t m h]; simp
theorem BlkM.frozen (h : BlkM w g t cs) {i : Nat} (hi : i < cs.length) : w.frozen? ⟨g, i, none⟩ = false := by
  obtain ⟨m, hm, h⟩ := h
  obtain ⟨m1, m2⟩ := m
  simp only [World.frozen?, h]
  rcases hm with hm | hm
  · injection hm with h1 h2; subst h1; subst h2; simp
  · simp; intro h3; exfalso; simp at hm; omega
theorem Blk.marked (h : Blk w g t cs) : BlkM w g t cs := ⟨(0, 0), .inl rfl, h⟩
theorem BlkM.alloc (h : BlkM w g t cs) (o : Obj) : BlkM (w.alloc o) g t cs := by
  have hl := h.lt
  obtain ⟨m, hm, h⟩ := h
  exact ⟨m, hm, (Below.heap_alloc w o g hl).trans h⟩
theorem BlkM.drew (h : BlkM w g t cs) : BlkM w.drew g t cs := h
theorem BlkM.set_ (h : BlkM w g t cs) (i : Nat) (u : Value) : BlkM (w.setCell ⟨g, i, none⟩ u) g t (cs.set i u) := by
  obtain ⟨m, hm, h⟩ := h
  refine ⟨m, by simpa using hm, ?_⟩
  simp [World.setCell, Array.getElem?_modify, h]
theorem BlkM.below {B : Nat} (h : BlkM w g t cs) (hb : Below B w w') (hg : g < B) : BlkM w' g t cs := by
  obtain ⟨m, hm, h⟩ := h
  exact ⟨m, hm, (hb.block g hg).trans h⟩
theorem BlkM.stays (h : BlkM w g t cs) (hb : Below w.heap.size w w') : BlkM w' g t cs := h.below hb h.lt

/-- a value that is a row of these bytes, of the call's own from B on -/
def RowB (w : World) (B : Nat) (e : TypeId) (v : Value) (l : List UInt8) : Prop :=
  (v = .slice none 0 0 ∧ l = []) ∨ ∃ g cs, v = .slice (some ⟨g, 0, none⟩) l.length cs.length ∧ B ≤ g ∧ l.length ≤ cs.length ∧ BlkM w g e cs ∧ cs.take l.length = l.map u8
variable {B : Nat} {e : TypeId} {v : Value} {l : List UInt8}
theorem RowB.none_ : RowB w B e (.slice none 0 0) [] := .inl ⟨rfl, rfl⟩
theorem RowB.stays (h : RowB w B e v l) (hb : Below w.heap.size w w') : RowB w' B e v l := by
  rcases h with h | ⟨g, cs, hv, hB, hl, hk, ht⟩
  · exact .inl h
  · exact .inr ⟨g, cs, hv, hB, hl, hk.stays hb, ht⟩
theorem RowB.len (h : RowB w B e v l) : ∃ A c, v = .slice A l.length c := by
  rcases h with ⟨rfl, rfl⟩ | ⟨g, cs, rfl, -⟩ <;> exact ⟨_, _, rfl⟩
theorem take_at {cs : List Value} {l : List UInt8} (ht : cs.take l.length = l.map u8) {i : Nat} {x : UInt8} (hx : l[i]? = some x) : cs[i]? = some (u8 x) := by
  have hi : i < l.length := (List.getElem?_eq_some_iff.1 hx).1
  have : (cs.take l.length)[i]? = some (u8 x) := by rw [ht, List.getElem?_map, hx]; rfl
  rw [List.getElem?_take, if_pos hi] at this
  exact this

theorem take_set_last (cs : List Value) (n : Nat) (h : n < cs.length) (x : Value) : (cs.take (n + 1)).set n x = cs.take n ++ [x] := by
  have hl : (cs.take n).length = n := by simp; omega
  rw [List.take_add_one, List.getElem?_eq_getElem h]
  simp only [Option.toList_some]
  rw [List.set_append_right _ _ (by omega), hl, Nat.sub_self]
  rfl

variable {P : Program}
/-- '[]byte(s)' is such a row -/
theorem RowB.of_string (w : World) (src dst : TypeId) (l : List UInt8) (hs : P.underlying src = some .string) (hd : P.underlying dst = some (.slice e)) (he : P.underlying e = some (.int .u8)) :
    ∃ v W', (convert src dst (.string (bs l))).run P w = .ok v W' ∧ RowB W' w.heap.size e v l ∧ Below w.heap.size w W' := by
  refine ⟨_, _, run_bytes_of_string w src dst e (bs l) hs hd he, .inr ⟨w.heap.size, l.map u8 ++ zcells (grownCap w l.length 0 e - l.length), ?_, Nat.le_refl _, by simp, ?_, by simp⟩, ((Below.refl _ _).drew).alloc (Nat.le_refl _) _⟩
  · have := grownCap_ge w l.length 0 e
    rw [bs_size]
    simp [zcells_len]
    omega
  · refine ⟨((bytesRow (bs l) (grownCap w (bs l).size 0 e)).size, (bytesRow (bs l) (grownCap w (bs l).size 0 e)).size + 1), .inr ?_, ?_⟩
    · simp [bytesRow, zcells_len, bs_size]
    · rw [show (l.map u8 ++ zcells (grownCap w l.length 0 e - l.length)).toArray = bytesRow (bs l) (grownCap w (bs l).size 0 e) by
        apply Array.ext'
        simp [bytesRow, zcells, u8, bs_size]]
      exact heap_alloc_new w.drew _

/-- string(b[:n]) -/
theorem RowB.string (h : RowB w B e v l) (src dst : TypeId) (hs : P.underlying src = some (.slice e)) (he : P.underlying e = some (.int .u8)) (hd : P.underlying dst = some .string) :
    (convert src dst v).run P w = .ok (.string (bs l)) w := by
  rcases h with ⟨rfl, rfl⟩ | ⟨g, cs, rfl, hB, hl, hk, ht⟩
  · exact run_convert_bytes_nil w src e hs he 0 0 dst hd
  · rw [run_convert_bytes_arg (P := P) w src e hs he g 0 l.length cs.length (l.map fun b => (b.toNat : Int)) (by simp) (fun i hi => by
      rw [Nat.zero_add, hk.cell, take_at ht (List.getElem?_eq_getElem hi)]
      simp [u8, hi]) dst hd, strOf]
/-- a byte is stored into the row -/
theorem RowB.store (h : RowB w B e v l) {i : Nat} (hi : i < l.length) (x : UInt8) : ∃ g c, v = .slice (some ⟨g, 0, none⟩) l.length c ∧ l.length ≤ c ∧ B ≤ g ∧ (w.cell? ⟨g, i, none⟩ = some (u8 l[i])) ∧ w.frozen? ⟨g, i, none⟩ = false ∧ RowB (w.setCell ⟨g, i, none⟩ (u8 x)) B e v (l.set i x) := by
  rcases h with ⟨rfl, rfl⟩ | ⟨g, cs, rfl, hB, hl, hk, ht⟩
  · simp at hi
  · refine ⟨g, cs.length, rfl, hl, hB, ?_, hk.frozen (by omega), .inr ⟨g, cs.set i (u8 x), by simp, hB, by simpa using hl, hk.set_ i _, ?_⟩⟩
    · rw [hk.cell]; exact take_at ht (List.getElem?_eq_getElem hi)
    · rw [List.length_set, List.take_set, ht, List.map_set]

/-- 'append(b, x)': the one byte lies in a new row -/
theorem RowB.append (t ty : TypeId) (i : TypeInfo) (ht : P.underlying t = some (.slice e)) (hi : P.info? e = some i) (hz : i.zero = some (.int .u8 0)) (hsize : i.size = 1) (hby : i.bytes = 1)
    (h : RowB w B e v l) (hB : B ≤ w.heap.size) (x : UInt8) (hl : l.length ≤ 1000000000) :
    ∃ v' w', (Builtin.append_ #[t, t] ty #[v, .slice (some ⟨w.heap.size, 0, none⟩) 1 1]).run P (w.alloc (.cells #[u8 x] e)) = .ok v' w' ∧ (RowB w' B e v' (l ++ [x]) ∧ ∀ a, Below B a w → Below B a w') := by
  have hone : Blk (w.alloc (.cells #[u8 x] e)) w.heap.size e [u8 x] := Blk.new w e [u8 x]
  have hcell : ∀ j u, [u8 x][j]? = some u → (w.alloc (.cells #[u8 x] e)).cell? ((⟨w.heap.size, 0, none⟩ : Addr).add j) = some u := fun j u hu => by
    rw [show (⟨w.heap.size, 0, none⟩ : Addr).add j = ⟨w.heap.size, j, none⟩ by unfold Addr.add; split <;> simp_all, hone.cell, hu]
  have hs : (w.alloc (.cells #[u8 x] e)).heap.size = w.heap.size + 1 := by simp
  have hbel : ∀ a, Below B a w → Below B a (w.alloc (.cells #[u8 x] e)) := fun a h => h.alloc hB _
  have hsz : w.heap.size ≤ (w.alloc (.cells #[u8 x] e)).heap.size := by omega
  have hst : RowB (w.alloc (.cells #[u8 x] e)) B e v l := h.stays ((Below.refl _ _).alloc (Nat.le_refl _) _)
  generalize w.alloc (.cells #[u8 x] e) = w2 at *
  have grown : ∀ (old : Nat), RowB (w2.drew.alloc (.cells ((l.map u8 ++ [u8 x]).toArray ++ Builtin.zeroCells (Value.int .u8 0).cells (grownCap w2 (l.length + 1) old e - (l.length + 1))) e)) B e (.slice (some ⟨w2.heap.size, 0, none⟩) (l.length + 1) (grownCap w2 (l.length + 1) old e)) (l ++ [x]) := fun old => by
    have hge := grownCap_ge w2 (l.length + 1) old e
    refine .inr ⟨w2.heap.size, l.map u8 ++ [u8 x] ++ zcells (grownCap w2 (l.length + 1) old e - (l.length + 1)), ?_, by omega, by simp, Blk.marked ?_, ?_⟩
    · simp [zcells_len]; omega
    · rw [zeroCells_z]
      have := Blk.new w2.drew e (l.map u8 ++ [u8 x] ++ zcells (grownCap w2 (l.length + 1) old e - (l.length + 1)))
      simpa using this
    · rw [List.take_left' (by simp)]; simp
  rcases hst with ⟨rfl, rfl⟩ | ⟨g, cs, rfl, hg, hlc, hk, htk⟩
  · have hr := run_append_nil (P := P) w2 t ty e i (.int .u8 0) ht hi hz ⟨w.heap.size, 0, none⟩ 1 1 [u8 x] (by rw [hsize]; rfl) hcell (by omega) (by omega) (by rw [hby]; omega)
    exact ⟨_, _, hr, grown 0, fun a ha => ((hbel a ha).drew).alloc (by show B ≤ w2.heap.size; omega) _⟩
  · by_cases hroom : l.length + 1 ≤ cs.length
    · have hr := run_append_room_cells (P := P) (w := w2) t ty e i ht hi g 0 l.length cs.length ⟨w.heap.size, 0, none⟩ 1 1 [u8 x] (by rw [hsize]; rfl) hcell (by intro u hu; simp only [List.mem_cons, List.not_mem_nil, or_false] at hu; subst hu; rfl) hroom
        (fun j hj => by simp at hj; subst hj; rw [hsize, hk.cell, List.getElem?_eq_getElem (by omega)]; rfl)
        (fun j hj => by simp at hj; subst hj; rw [hsize]; exact hk.frozen (by omega))
      refine ⟨_, _, hr, .inr ⟨g, cs.set l.length (u8 x), by simp, hg, by simp; omega, ?_, ?_⟩, fun a ha => ?_⟩
      · rw [hsize, Nat.mul_one, Nat.zero_add]
        exact hk.set_ _ _
      · rw [List.length_append, List.length_singleton, List.map_append, ← htk, List.take_set]
        exact take_set_last cs l.length (by omega) (u8 x)
      · rw [hsize, Nat.mul_one, Nat.zero_add]
        exact (hbel a ha).setCell (p := ⟨g, l.length, none⟩) hg _
    · have hr := run_append_grow (P := P) w2 t ty e i (.int .u8 0) ht hi hz ⟨g, 0, none⟩ l.length cs.length (l.map u8) (by simp [hsize]) (fun j u hu => by
          rw [List.getElem?_map, Option.map_eq_some_iff] at hu
          obtain ⟨c, hc, rfl⟩ := hu
          rw [show (⟨g, 0, none⟩ : Addr).add j = ⟨g, j, none⟩ by unfold Addr.add; split <;> simp_all, hk.cell]
          exact take_at htk hc) ⟨w.heap.size, 0, none⟩ 1 1 [u8 x] (by rw [hsize]; rfl) hcell (by omega) (by omega) (by rw [hby]; exact growslice_fits (by omega) (by omega))
      rw [show (l.map u8).toArray ++ [u8 x].toArray = (l.map u8 ++ [u8 x]).toArray by simp] at hr
      exact ⟨_, _, hr, grown cs.length, fun a ha => ((hbel a ha).drew).alloc (by show B ≤ w2.heap.size; omega) _⟩
end
end Go.Proofs.YtfjflkmhhbhceaaGreatDoor


/-
  Layer 20 in plain words: bytes of a node are read, written, resized. No condition.
-/
namespace Go.Proofs.YtfjflkmhhbhceaaGreatDoor

def nFill (d : List UInt8) (n : Nat) : List UInt8 := d ++ List.replicate (n - d.length) 0
def nWrite (d : List UInt8) (off : Int) (t : List UInt8) : List UInt8 × Int :=
  if off < 0 then ([], 22)
  else if t = [] then (d, 0)
  else if 1024 < off ∨ 1024 - off < (t.length : Int) then ([], 27)
  else ((nFill d (off.toNat + t.length)).take off.toNat ++ (t ++ (nFill d (off.toNat + t.length)).drop (off.toNat + t.length)), 0)
theorem nFill_len (d : List UInt8) (n : Nat) : (nFill d n).length = max d.length n := by simp [nFill]; omega
end Go.Proofs.YtfjflkmhhbhceaaGreatDoor


/-
  Layer 20, plain: bytes that are written one behind the other are written at once. Condition: they lie within 1024 bytes.
-/
namespace Go.Proofs.YtfjflkmhhbhceaaGreatDoor
open Go.RowKit

theorem nFill_at (d : List UInt8) (m i : Nat) : (nFill d m)[i]? = if i < d.length then d[i]? else if i < m then some 0 else none := by
  unfold nFill
  rw [List.getElem?_append]
  split
  · rfl
  · rw [List.getElem?_replicate]
    by_cases h : i < m
    · rw [if_pos (by omega), if_pos h]
    · rw [if_neg (by omega), if_neg h]
/-- a text put overL bytes -/
def overL (D : List UInt8) (n : Nat) (t : List UInt8) : List UInt8 := D.take n ++ (t ++ D.drop (n + t.length))
theorem overL_at {D : List UInt8} {n : Nat} {t : List UInt8} (h : n + t.length ≤ D.length) (i : Nat) : (overL D n t)[i]? = if i < n then D[i]? else if i < n + t.length then t[i - n]? else D[i]? := by
  unfold overL
  have h1 : (D.take n).length = n := by rw [List.length_take]; omega
  rw [List.getElem?_append, h1]
  split
  · rename_i h2
    rw [List.getElem?_take, if_pos h2]
  · rename_i h2
    rw [List.getElem?_append]
    by_cases h3 : i < n + t.length
    · rw [if_pos (by omega), if_pos h3]
    · rw [if_neg (by omega), if_neg h3, List.getElem?_drop]
      congr 1
      omega
theorem overL_len {D : List UInt8} {n : Nat} {t : List UInt8} (h : n + t.length ≤ D.length) : (overL D n t).length = D.length := by
  unfold overL
  simp only [List.length_append, List.length_take, List.length_drop]
  omega
theorem nWrite_overL {d : List UInt8} {n : Nat} {t : List UInt8} (ht : t ≠ []) (h : n + t.length ≤ 1024) : nWrite d n t = (overL (nFill d (n + t.length)) n t, 0) := by
  unfold nWrite
  rw [if_neg (by omega), if_neg ht, if_neg (by omega)]
  rfl
/-- one text behind the other -/
theorem nWrite_join {d a b : List UInt8} {n : Nat} (ha : a ≠ []) (hb : b ≠ []) (h : n + a.length + b.length ≤ 1024) :
    (nWrite (nWrite d n a).1 ((n + a.length : Nat) : Int) b).1 = (nWrite d n (a ++ b)).1 := by
  have hab : a ++ b ≠ [] := by simp [ha]
  rw [nWrite_overL ha (by omega), nWrite_overL hb (by omega), nWrite_overL hab (by rw [List.length_append]; omega)]
  have l1 : n + a.length ≤ (nFill d (n + a.length)).length := by rw [nFill_len]; omega
  have l2 : n + a.length + b.length ≤ (nFill (overL (nFill d (n + a.length)) n a) (n + a.length + b.length)).length := by rw [nFill_len]; omega
  have l3 : n + (a ++ b).length ≤ (nFill d (n + (a ++ b).length)).length := by rw [nFill_len]; omega
  apply List.ext_getElem?
  intro i
  rw [overL_at l2, overL_at l3, nFill_at, nFill_at, overL_at l1, overL_len l1, nFill_len, nFill_at, List.length_append, List.getElem?_append]
  by_cases h1 : i < n
  · have h2 : i < n + a.length := by omega
    by_cases h5 : i < d.length
    · simp only [h1, h2, h5, if_true, show i < max d.length (n + a.length) by omega]
    · simp only [h1, h2, h5, if_true, if_false, show i < max d.length (n + a.length) by omega, show i < n + (a.length + b.length) by omega]
  · by_cases h2 : i < n + a.length
    · simp only [h1, h2, if_true, if_false, show i < max d.length (n + a.length) by omega, show i < n + (a.length + b.length) by omega, show i - n < a.length by omega]
    · by_cases h3 : i < n + a.length + b.length
      · simp only [h1, h2, h3, if_true, if_false, show i < n + (a.length + b.length) by omega, show ¬ i - n < a.length by omega]
        congr 1
        omega
      · by_cases h5 : i < d.length
        · simp only [h1, h2, h3, h5, if_true, if_false, show i < max d.length (n + a.length) by omega, show ¬ i < n + (a.length + b.length) by omega]
        · simp only [h1, h2, h3, h5, if_false, show ¬ i < max d.length (n + a.length) by omega, show ¬ i < n + (a.length + b.length) by omega]
end Go.Proofs.YtfjflkmhhbhceaaGreatDoor


/-
  Layer 20 in plain words: what is written is read there, and all other bytes are as they were. Conditions as told.
-/
namespace Go.Proofs.YtfjflkmhhbhceaaGreatDoor

end Go.Proofs.YtfjflkmhhbhceaaGreatDoor
