/-
  Memory words for all walks: a slice whose rows of cells are known; what a region that draws its order keeps. No condition.
-/
import Derived.WalkKit
import Derived.WalkSpells
import Derived.WalkLawsBesides
import Derived.Deep.RegionHeld3
import Derived.Deep.DrawnRows
import Derived.Deep.MidRow
import Derived.Deep.Draws
import Derived.BigQuiet
import Derived.Deep.QuietTactic
import Derived.Deep.LoopGhost
import Derived.Lib.Hide
namespace Go.Proofs.YtfjflkmhhbhceaaGreatDoor
open Go.RowKit

theorem below_then {w W W' : World} (h : Below w.heap.size w W) (hb : Below W.heap.size W W') : Below w.heap.size w W' := h.trans (hb.mono h.size)
theorem bdN {B : Nat} {a w : World} (h : Below B a w) (n : Nat) : Below B a (w.drewN n) := ⟨h.os, h.tape, h.output, h.size, h.block⟩
theorem below_new {w W : World} (o : Obj) (hb : Below (w.alloc o).heap.size (w.alloc o) W) : Below w.heap.size w W :=
  below_then ((Below.refl _ _).alloc (Nat.le_refl _) o) hb

theorem ret_int {k : IntKind} {a b : Int} (h : a = b) : Ending.returned (.int k a) = .returned (.int k b) := by rw [h]
theorem ret_bool {a b : Bool} (h : a = b) : Ending.returned (.bool a) = .returned (.bool b) := by rw [h]

/-- a slice's address and rows of cells ('sz' cells an element), all below the heap's end -/
def At (w : World) (sz : Nat) (A : Option Addr) (rows : List (List Value)) : Prop :=
  ∀ i r, rows[i]? = some r → ∃ b off, A = some ⟨b, off, none⟩ ∧ b < w.heap.size ∧ ∀ j u, r[j]? = some u → w.cell? ⟨b, off + i * sz + j, none⟩ = some u

theorem At.below {w w' : World} {sz : Nat} {A : Option Addr} {rows : List (List Value)} (h : At w sz A rows) (hb : Below w.heap.size w w') : At w' sz A rows := by
  intro i r hr
  obtain ⟨b, off, hA, hlt, hc⟩ := h i r hr
  exact ⟨b, off, hA, Nat.lt_of_lt_of_le hlt hb.size, fun j u hu => (hb.cell (p := ⟨b, _, none⟩) hlt).trans (hc j u hu)⟩
theorem At.alloc {w : World} {sz : Nat} {A : Option Addr} {rows : List (List Value)} (h : At w sz A rows) (o : Obj) : At (w.alloc o) sz A rows :=
  h.below ((Below.refl _ _).alloc (Nat.le_refl _) o)
theorem At.drew {w : World} {sz : Nat} {A : Option Addr} {rows : List (List Value)} (h : At w sz A rows) : At w.drew sz A rows := h
theorem At.nil {w : World} {sz : Nat} {A : Option Addr} : At w sz A [] := fun i r h => by simp at h
theorem At.getD {w : World} {sz : Nat} {A : Option Addr} {rows : List (List Value)} (h : At w sz A rows) {k : Nat} (hk : k < rows.length) :
    ∃ b off, A = some ⟨b, off, none⟩ ∧ b < w.heap.size ∧ ∀ j u, rows[k][j]? = some u → w.cell? ⟨b, off + k * sz + j, none⟩ = some u := h k _ (List.getElem?_eq_getElem hk)

theorem At.range {w : World} {sz : Nat} {A : Option Addr} {rows : List (List Value)} (h : At w sz A rows) {k : Nat} (hk : k < rows.length) :
    ∃ b off, A = some ⟨b, off, none⟩ ∧ b < w.heap.size ∧ w.rangeAt b (off + k * sz) rows[k] := h.getD hk

section
variable {P : Program}
theorem setCells_new (w : World) (T : TypeId) : ∀ (cs : List Value) (pre zs : List Value), zs.length = cs.length →
    (w.alloc (.cells (pre ++ zs).toArray T)).setCells w.heap.size pre.length cs = w.alloc (.cells (pre ++ cs).toArray T)
  | [], pre, zs, h => by
    have : zs = [] := List.eq_nil_of_length_eq_zero h
    subst this; rfl
  | c :: cs, pre, z :: zs, h => by
    rw [World.setCells, World.setCell_alloc_at _ _ _ _ _ rfl]
    have e : (pre ++ z :: zs).toArray.setIfInBounds pre.length c = ((pre ++ [c]) ++ zs).toArray := by simp
    rw [e]
    have := setCells_new w T cs (pre ++ [c]) zs (by simpa using h)
    rw [show (pre ++ [c]).length = pre.length + 1 by simp] at this
    rw [this]; simp

/-- 'x := v' of a struct: a new variable, and the value stored into it. -/
theorem wpList_new_struct {ops : Array Oper} {rest : List Oper} {o1 o2 : Oper} {a : Act} {w : World} {Q : Exit → Act → World → Prop} (h1 : o1.guard = none) (h2 : o2.guard = none) (T : TypeId) (ho1 : o1.op = .alloc T) (x y : Operand) (ho2 : o2.op = .store T x y)
    (C : List Value) {Z : Array Value} {n : Nat} (hinfo : (P.info? T).map (fun i => (i.zero, i.size)) = some (some (.agg Z), n)) (hsz : C.length = n) (hZ : Z.size = n) (hone : ∀ v ∈ C, v.oneCell' = true)
    (hx : (a.put o1.dst (.pointer (some ⟨w.heap.size, 0, none⟩))).eval x = .pointer (some ⟨w.heap.size, 0, none⟩)) (hy : (a.put o1.dst (.pointer (some ⟨w.heap.size, 0, none⟩))).eval y = .agg C.toArray)
    (h : wpList P ops Q rest ((a.put o1.dst (.pointer (some ⟨w.heap.size, 0, none⟩))).put o2.dst undef) (w.alloc (.cells C.toArray T))) : wpList P ops Q (o1 :: o2 :: rest) a w := by
  obtain ⟨i, hi, hzi, hsi⟩ : ∃ i, P.info? T = some i ∧ i.zero = some (.agg Z) ∧ i.size = n := by
    cases hq : P.info? T with
    | none => rw [hq] at hinfo; cases hinfo
    | some i => rw [hq] at hinfo; simp at hinfo; exact ⟨i, rfl, hinfo.1, hinfo.2⟩
  refine wpList_plain h1 fun K hK => ?_
  have hrun : (Instr.alloc T true (.tuple #[])).run P w = .ok (.pointer (some ⟨w.heap.size, 0, none⟩)) (w.alloc (.cells Z T)) := by
    simp [Instr.alloc, zeroValue, typeInfo, hi, hzi, newVar, newRow, Value.cells, go_sem]
  unfold Oper.wp execOp
  simp only [ho1, Sem.run_bind, Sem.run_pure, Result.andThen_ok, hrun]
  refine hK _ _ ?_
  refine wpList_store_mid h2 T x y ho2 w.heap.size 0 C.toArray hx hy ?_ (by simp [hi, hsi, hsz]) (all_oneCell_toArray hone) ?_
  · intro j hj
    rw [World.cell?_alloc_at _ _ _ _ rfl, World.frozen?_alloc_at _ _ _ _ rfl]
    simp at hj
    simp
    omega
  · have := setCells_new w T C [] Z.toList (by simp; omega)
    simp only [List.nil_append, List.length_nil, Array.toArray_toList] at this
    simpa [this] using h
end
theorem range_new (w : World) (C : List Value) (T : TypeId) : (w.alloc (.cells C.toArray T)).rangeAt w.heap.size 0 C := fun j v hv => by
  rw [World.cell?_alloc_at _ _ _ _ rfl]; simpa using hv

/-- n cells of a block, from an offset on -/
def rowOf (w : World) (b o n : Nat) : Option (Array Value) :=
  match w.heap[b]? with
  | some (.cells C _ _) => if o + n ≤ C.size then some (C.extract o (o + n)) else none
  | _ => none
def rowAt (w : World) (n : Nat) : Value → Option (Array Value)
  | .pointer (some ⟨b, o, none⟩) => rowOf w b o n
  | _ => none
theorem rowAt_ptr (w : World) (n b o : Nat) : rowAt w n (.pointer (some ⟨b, o, none⟩)) = rowOf w b o n := rfl

theorem rowOf_range {w : World} {b o n : Nat} {cs : Array Value} (h : rowOf w b o n = some cs) : w.rangeAt b o cs.toList ∧ cs.size = n := by
  unfold rowOf at h
  split at h
  · rename_i C T fr hb
    split at h
    · rename_i hle
      obtain rfl : C.extract o (o + n) = cs := by simpa using h
      refine ⟨fun j v hv => ?_, by simp; omega⟩
      simp only [World.cell?, hb]
      simp only [Array.toList_extract, List.extract_eq_take_drop, List.getElem?_take, List.getElem?_drop] at hv
      split at hv
      · simpa using hv
      · cases hv
    · cases h
  · cases h
theorem rowOf_of {w : World} {b o n : Nat} {cs : List Value} (h : w.rangeAt b o cs) (hn : cs.length = n) (h0 : 0 < n) : rowOf w b o n = some cs.toArray := by
  have h1 := h 0 cs[0] (List.getElem?_eq_getElem (by omega))
  unfold World.cell? at h1
  split at h1
  · rename_i C T fr hb
    have hc : ∀ j v, cs[j]? = some v → C[o + j]? = some v := fun j v hv => by
      have := h j v hv
      simpa [World.cell?, hb] using this
    have hlast := hc (n - 1) cs[n - 1] (List.getElem?_eq_getElem (by omega))
    have hsz : o + (n - 1) < C.size := (Array.getElem?_eq_some_iff.1 hlast).1
    simp only at hb
    simp only [rowOf, hb]
    rw [if_pos (by omega)]
    congr 1
    apply Array.ext
    · simp; omega
    · intro i h2 h3
      simp at h3
      have := hc i cs[i] (List.getElem?_eq_getElem h3)
      have e := (Array.getElem?_eq_some_iff.1 this).2
      simpa using e
  · cases h1

theorem rowOf_drew (w : World) (b o n : Nat) : rowOf w.drew b o n = rowOf w b o n := rfl
theorem rowOf_drewN (w : World) (b o n k : Nat) : rowOf (w.drewN k) b o n = rowOf w b o n := rfl
theorem rowOf_alloc_past (w : World) (ob : Obj) (b o n : Nat) (hb : b < w.heap.size) : rowOf (w.alloc ob) b o n = rowOf w b o n := by
  simp only [rowOf, Below.heap_alloc w ob b hb]
theorem rowOf_below {B : Nat} {w w' : World} (h : Below B w w') {b : Nat} (hb : b < B) (o n : Nat) : rowOf w' b o n = rowOf w b o n := by
  simp only [rowOf, h.block b hb]

theorem ex_load {P : Program} {ρ : Operand → Value} {w : World} {dst : Option Tmp} {ty : TypeId} {pos : String} {after : Array Edge} {g : Option (Nat × Bool)} {x : Operand} (T n : Nat) {d : TypeDesc}
    (hu : P.underlying T = some d) (hd : d.isRow = true) (hi : (P.info? T).map (·.size) = some n) (h : (rowAt w n (ρ x)).isSome = true) :
    (execOp ρ ⟨dst, .load T x, ty, pos, after, g⟩).run P w = .ok (.value (.agg ((rowAt w n (ρ x)).getD #[]))) w := by
  cases hr : rowAt w n (ρ x) with
  | none => rw [hr] at h; cases h
  | some cs =>
    cases hx : ρ x with
    | pointer p =>
      rw [hx] at hr
      match p, hr with
      | some ⟨b, o, none⟩, hr =>
        have hr' : rowOf w b o n = some cs := hr
        obtain ⟨h1, h2⟩ := rowOf_range hr'
        have := run_loadAt_mid (P := P) w b o T cs.toList d h1 hu hd (by rw [hi]; simp [h2])
        unfold execOp
        simp only [hx, Sem.run_bind, Sem.run_pure, Result.andThen_ok, this, Array.toArray_toList, Option.getD_some]
    | _ => rw [hx] at hr; cases hr

theorem rowOf_new (w : World) (C : Array Value) (T : TypeId) (b o n : Nat) (hb : b = w.heap.size) (hn : o + n ≤ C.size) : rowOf (w.alloc (.cells C T)) b o n = some (C.extract o (o + n)) := by
  subst hb
  simp only [rowOf, heap_alloc_new]
  rw [if_pos hn]
/-- what holds of every world that a region that draws its order comes through: all blocks of w are as they were -/
abbrev Stb (w W : World) : Prop := (∀ b o, b < w.heap.size → W.cell? ⟨b, o, none⟩ = w.cell? ⟨b, o, none⟩) ∧ (∀ b o n, b < w.heap.size → rowOf W b o n = rowOf w b o n) ∧ Below w.heap.size w W
theorem Stb.of {w W : World} (h : Below w.heap.size w W) : Stb w W := ⟨fun _ _ hb => h.cell hb, fun _ _ _ hb => rowOf_below h hb _ _, h⟩
theorem Stb.start {w : World} : Stb w w.drew := Stb.of (Below.refl _ _).drew
theorem Stb.below {w W : World} (h : Stb w W) : Below w.heap.size w W := h.2.2
theorem Stb.call {w W W' : World} (h : Stb w W) (hb : Below W.heap.size W W') : Stb w W' := Stb.of (below_then h.2.2 hb)
theorem Stb.alloc {w W : World} (h : Stb w W) (o : Obj) : Stb w (W.alloc o) := Stb.of (h.2.2.alloc h.2.2.size o)
end Go.Proofs.YtfjflkmhhbhceaaGreatDoor

/-
  The data of the program's packages api and attr, as plain structures, and the cells that each takes (written by wip/tools/structs.py). No condition.
-/
namespace Go.Proofs.YtfjflkmhhbhceaaGreatDoor
open Go.RowKit

structure Attr where
  type : Int
  mode : Int
  nlink : Int
  uid : Int
  gid : Int
  size : Int
  id : Int
  gen : Int
  change : Int
  time : Int
  deriving DecidableEq
def Attr.vals (x : Attr) : List Value := [.int .i64 x.type, .int .i64 x.mode, .int .i64 x.nlink, .int .i64 x.uid, .int .i64 x.gid, .int .i64 x.size, .int .i64 x.id, .int .i64 x.gen, .int .i64 x.change, .int .i64 x.time]
theorem Attr.len (x : Attr) : x.vals.length = 10 := rfl
theorem Attr.one (x : Attr) : ∀ v ∈ x.vals, v.oneCell' = true := by
  intro v hv
  unfold Attr.vals at hv
  simp only [List.mem_cons, List.not_mem_nil, or_false] at hv
  rcases hv with rfl | rfl | rfl | rfl | rfl | rfl | rfl | rfl | rfl | rfl <;> rfl
theorem Attr.at0 (x : Attr) (h : 0 < x.vals.length) : x.vals[0] = .int .i64 x.type := rfl
theorem Attr.lat0 (x : Attr) : x.vals[0]? = some (.int .i64 x.type) := rfl
theorem Attr.at1 (x : Attr) (h : 1 < x.vals.length) : x.vals[1] = .int .i64 x.mode := rfl
theorem Attr.lat1 (x : Attr) : x.vals[1]? = some (.int .i64 x.mode) := rfl
theorem Attr.at2 (x : Attr) (h : 2 < x.vals.length) : x.vals[2] = .int .i64 x.nlink := rfl
theorem Attr.lat2 (x : Attr) : x.vals[2]? = some (.int .i64 x.nlink) := rfl
theorem Attr.at3 (x : Attr) (h : 3 < x.vals.length) : x.vals[3] = .int .i64 x.uid := rfl
theorem Attr.lat3 (x : Attr) : x.vals[3]? = some (.int .i64 x.uid) := rfl
theorem Attr.at4 (x : Attr) (h : 4 < x.vals.length) : x.vals[4] = .int .i64 x.gid := rfl
theorem Attr.lat4 (x : Attr) : x.vals[4]? = some (.int .i64 x.gid) := rfl
theorem Attr.at5 (x : Attr) (h : 5 < x.vals.length) : x.vals[5] = .int .i64 x.size := rfl
theorem Attr.lat5 (x : Attr) : x.vals[5]? = some (.int .i64 x.size) := rfl
theorem Attr.at6 (x : Attr) (h : 6 < x.vals.length) : x.vals[6] = .int .i64 x.id := rfl
theorem Attr.lat6 (x : Attr) : x.vals[6]? = some (.int .i64 x.id) := rfl
theorem Attr.at7 (x : Attr) (h : 7 < x.vals.length) : x.vals[7] = .int .i64 x.gen := rfl
theorem Attr.lat7 (x : Attr) : x.vals[7]? = some (.int .i64 x.gen) := rfl
theorem Attr.at8 (x : Attr) (h : 8 < x.vals.length) : x.vals[8] = .int .i64 x.change := rfl
theorem Attr.lat8 (x : Attr) : x.vals[8]? = some (.int .i64 x.change) := rfl
theorem Attr.at9 (x : Attr) (h : 9 < x.vals.length) : x.vals[9] = .int .i64 x.time := rfl
theorem Attr.lat9 (x : Attr) : x.vals[9]? = some (.int .i64 x.time) := rfl
theorem Attr.sub0_10 (x : Attr) : x.vals.toArray.extract 0 10 = x.vals.toArray := (List.extract_toArray ..).trans (congrArg List.toArray (show _ = x.vals from rfl))
theorem Attr.lsub0_10 (x : Attr) : x.vals.take 10 = x.vals := rfl
def Attr.good (x : Attr) : Prop := (Lit.int .i64 x.type).wf = true ∧ (Lit.int .i64 x.mode).wf = true ∧ (Lit.int .i64 x.nlink).wf = true ∧ (Lit.int .i64 x.uid).wf = true ∧ (Lit.int .i64 x.gid).wf = true ∧ (Lit.int .i64 x.size).wf = true ∧ (Lit.int .i64 x.id).wf = true ∧ (Lit.int .i64 x.gen).wf = true ∧ (Lit.int .i64 x.change).wf = true ∧ (Lit.int .i64 x.time).wf = true

structure Opt where
  is : Bool
  n : Int
  deriving DecidableEq
def Opt.vals (x : Opt) : List Value := [.bool x.is, .int .i64 x.n]
theorem Opt.len (x : Opt) : x.vals.length = 2 := rfl
theorem Opt.one (x : Opt) : ∀ v ∈ x.vals, v.oneCell' = true := by
  intro v hv
  unfold Opt.vals at hv
  simp only [List.mem_cons, List.not_mem_nil, or_false] at hv
  rcases hv with rfl | rfl <;> rfl
theorem Opt.at0 (x : Opt) (h : 0 < x.vals.length) : x.vals[0] = .bool x.is := rfl
theorem Opt.lat0 (x : Opt) : x.vals[0]? = some (.bool x.is) := rfl
theorem Opt.at1 (x : Opt) (h : 1 < x.vals.length) : x.vals[1] = .int .i64 x.n := rfl
theorem Opt.lat1 (x : Opt) : x.vals[1]? = some (.int .i64 x.n) := rfl
theorem Opt.sub0_2 (x : Opt) : x.vals.toArray.extract 0 2 = x.vals.toArray := (List.extract_toArray ..).trans (congrArg List.toArray (show _ = x.vals from rfl))
theorem Opt.lsub0_2 (x : Opt) : x.vals.take 2 = x.vals := rfl
def Opt.good (x : Opt) : Prop := (Lit.int .i64 x.n).wf = true

structure Sett where
  mode : Opt
  uid : Opt
  gid : Opt
  size : Opt
  time : Opt
  deriving DecidableEq
def Sett.vals (x : Sett) : List Value := x.mode.vals ++ (x.uid.vals ++ (x.gid.vals ++ (x.size.vals ++ x.time.vals)))
theorem Sett.len (x : Sett) : x.vals.length = 10 := rfl
theorem Sett.one (x : Sett) : ∀ v ∈ x.vals, v.oneCell' = true := by
  intro v hv
  unfold Sett.vals at hv
  rcases List.mem_append.1 hv with hv | hv
  · exact Opt.one _ v hv
  · rcases List.mem_append.1 hv with hv | hv
    · exact Opt.one _ v hv
    · rcases List.mem_append.1 hv with hv | hv
      · exact Opt.one _ v hv
      · rcases List.mem_append.1 hv with hv | hv
        · exact Opt.one _ v hv
        · exact Opt.one _ v hv
theorem Sett.at0 (x : Sett) (h : 0 < x.vals.length) : x.vals[0] = .bool x.mode.is := rfl
theorem Sett.lat0 (x : Sett) : x.vals[0]? = some (.bool x.mode.is) := rfl
theorem Sett.at1 (x : Sett) (h : 1 < x.vals.length) : x.vals[1] = .int .i64 x.mode.n := rfl
theorem Sett.lat1 (x : Sett) : x.vals[1]? = some (.int .i64 x.mode.n) := rfl
theorem Sett.at2 (x : Sett) (h : 2 < x.vals.length) : x.vals[2] = .bool x.uid.is := rfl
theorem Sett.lat2 (x : Sett) : x.vals[2]? = some (.bool x.uid.is) := rfl
theorem Sett.at3 (x : Sett) (h : 3 < x.vals.length) : x.vals[3] = .int .i64 x.uid.n := rfl
theorem Sett.lat3 (x : Sett) : x.vals[3]? = some (.int .i64 x.uid.n) := rfl
theorem Sett.at4 (x : Sett) (h : 4 < x.vals.length) : x.vals[4] = .bool x.gid.is := rfl
theorem Sett.lat4 (x : Sett) : x.vals[4]? = some (.bool x.gid.is) := rfl
theorem Sett.at5 (x : Sett) (h : 5 < x.vals.length) : x.vals[5] = .int .i64 x.gid.n := rfl
theorem Sett.lat5 (x : Sett) : x.vals[5]? = some (.int .i64 x.gid.n) := rfl
theorem Sett.at6 (x : Sett) (h : 6 < x.vals.length) : x.vals[6] = .bool x.size.is := rfl
theorem Sett.lat6 (x : Sett) : x.vals[6]? = some (.bool x.size.is) := rfl
theorem Sett.at7 (x : Sett) (h : 7 < x.vals.length) : x.vals[7] = .int .i64 x.size.n := rfl
theorem Sett.lat7 (x : Sett) : x.vals[7]? = some (.int .i64 x.size.n) := rfl
theorem Sett.at8 (x : Sett) (h : 8 < x.vals.length) : x.vals[8] = .bool x.time.is := rfl
theorem Sett.lat8 (x : Sett) : x.vals[8]? = some (.bool x.time.is) := rfl
theorem Sett.at9 (x : Sett) (h : 9 < x.vals.length) : x.vals[9] = .int .i64 x.time.n := rfl
theorem Sett.lat9 (x : Sett) : x.vals[9]? = some (.int .i64 x.time.n) := rfl
theorem Sett.sub0_10 (x : Sett) : x.vals.toArray.extract 0 10 = x.vals.toArray := (List.extract_toArray ..).trans (congrArg List.toArray (show _ = x.vals from rfl))
theorem Sett.lsub0_10 (x : Sett) : x.vals.take 10 = x.vals := rfl
theorem Sett.sub0_2 (x : Sett) : x.vals.toArray.extract 0 2 = x.mode.vals.toArray := (List.extract_toArray ..).trans (congrArg List.toArray (show _ = x.mode.vals from rfl))
theorem Sett.lsub0_2 (x : Sett) : x.vals.take 2 = x.mode.vals := rfl
theorem Sett.sub2_2 (x : Sett) : x.vals.toArray.extract 2 4 = x.uid.vals.toArray := (List.extract_toArray ..).trans (congrArg List.toArray (show _ = x.uid.vals from rfl))
theorem Sett.lsub2_2 (x : Sett) : (x.vals.drop 2).take 2 = x.uid.vals := rfl
theorem Sett.sub4_2 (x : Sett) : x.vals.toArray.extract 4 6 = x.gid.vals.toArray := (List.extract_toArray ..).trans (congrArg List.toArray (show _ = x.gid.vals from rfl))
theorem Sett.lsub4_2 (x : Sett) : (x.vals.drop 4).take 2 = x.gid.vals := rfl
theorem Sett.sub6_2 (x : Sett) : x.vals.toArray.extract 6 8 = x.size.vals.toArray := (List.extract_toArray ..).trans (congrArg List.toArray (show _ = x.size.vals from rfl))
theorem Sett.lsub6_2 (x : Sett) : (x.vals.drop 6).take 2 = x.size.vals := rfl
theorem Sett.sub8_2 (x : Sett) : x.vals.toArray.extract 8 10 = x.time.vals.toArray := (List.extract_toArray ..).trans (congrArg List.toArray (show _ = x.time.vals from rfl))
theorem Sett.lsub8_2 (x : Sett) : (x.vals.drop 8).take 2 = x.time.vals := rfl
def Sett.good (x : Sett) : Prop := x.mode.good ∧ x.uid.good ∧ x.gid.good ∧ x.size.good ∧ x.time.good

structure Post where
  is : Bool
  attr : Attr
  deriving DecidableEq
def Post.vals (x : Post) : List Value := [.bool x.is] ++ x.attr.vals
theorem Post.len (x : Post) : x.vals.length = 11 := rfl
theorem Post.one (x : Post) : ∀ v ∈ x.vals, v.oneCell' = true := by
  intro v hv
  unfold Post.vals at hv
  rcases List.mem_append.1 hv with hv | hv
  · simp only [List.mem_cons, List.not_mem_nil, or_false] at hv
    subst hv; rfl
  · exact Attr.one _ v hv
theorem Post.at0 (x : Post) (h : 0 < x.vals.length) : x.vals[0] = .bool x.is := rfl
theorem Post.lat0 (x : Post) : x.vals[0]? = some (.bool x.is) := rfl
theorem Post.at1 (x : Post) (h : 1 < x.vals.length) : x.vals[1] = .int .i64 x.attr.type := rfl
theorem Post.lat1 (x : Post) : x.vals[1]? = some (.int .i64 x.attr.type) := rfl
theorem Post.at2 (x : Post) (h : 2 < x.vals.length) : x.vals[2] = .int .i64 x.attr.mode := rfl
theorem Post.lat2 (x : Post) : x.vals[2]? = some (.int .i64 x.attr.mode) := rfl
theorem Post.at3 (x : Post) (h : 3 < x.vals.length) : x.vals[3] = .int .i64 x.attr.nlink := rfl
theorem Post.lat3 (x : Post) : x.vals[3]? = some (.int .i64 x.attr.nlink) := rfl
theorem Post.at4 (x : Post) (h : 4 < x.vals.length) : x.vals[4] = .int .i64 x.attr.uid := rfl
theorem Post.lat4 (x : Post) : x.vals[4]? = some (.int .i64 x.attr.uid) := rfl
theorem Post.at5 (x : Post) (h : 5 < x.vals.length) : x.vals[5] = .int .i64 x.attr.gid := rfl
theorem Post.lat5 (x : Post) : x.vals[5]? = some (.int .i64 x.attr.gid) := rfl
theorem Post.at6 (x : Post) (h : 6 < x.vals.length) : x.vals[6] = .int .i64 x.attr.size := rfl
theorem Post.lat6 (x : Post) : x.vals[6]? = some (.int .i64 x.attr.size) := rfl
theorem Post.at7 (x : Post) (h : 7 < x.vals.length) : x.vals[7] = .int .i64 x.attr.id := rfl
theorem Post.lat7 (x : Post) : x.vals[7]? = some (.int .i64 x.attr.id) := rfl
theorem Post.at8 (x : Post) (h : 8 < x.vals.length) : x.vals[8] = .int .i64 x.attr.gen := rfl
theorem Post.lat8 (x : Post) : x.vals[8]? = some (.int .i64 x.attr.gen) := rfl
theorem Post.at9 (x : Post) (h : 9 < x.vals.length) : x.vals[9] = .int .i64 x.attr.change := rfl
theorem Post.lat9 (x : Post) : x.vals[9]? = some (.int .i64 x.attr.change) := rfl
theorem Post.at10 (x : Post) (h : 10 < x.vals.length) : x.vals[10] = .int .i64 x.attr.time := rfl
theorem Post.lat10 (x : Post) : x.vals[10]? = some (.int .i64 x.attr.time) := rfl
theorem Post.sub0_11 (x : Post) : x.vals.toArray.extract 0 11 = x.vals.toArray := (List.extract_toArray ..).trans (congrArg List.toArray (show _ = x.vals from rfl))
theorem Post.lsub0_11 (x : Post) : x.vals.take 11 = x.vals := rfl
theorem Post.sub1_10 (x : Post) : x.vals.toArray.extract 1 11 = x.attr.vals.toArray := (List.extract_toArray ..).trans (congrArg List.toArray (show _ = x.attr.vals from rfl))
theorem Post.lsub1_10 (x : Post) : x.vals.tail.take 10 = x.attr.vals := rfl
def Post.good (x : Post) : Prop := x.attr.good

structure Wcc where
  before : Opt
  after : Post
  deriving DecidableEq
def Wcc.vals (x : Wcc) : List Value := x.before.vals ++ x.after.vals
theorem Wcc.len (x : Wcc) : x.vals.length = 13 := rfl
theorem Wcc.one (x : Wcc) : ∀ v ∈ x.vals, v.oneCell' = true := by
  intro v hv
  unfold Wcc.vals at hv
  rcases List.mem_append.1 hv with hv | hv
  · exact Opt.one _ v hv
  · exact Post.one _ v hv
theorem Wcc.at0 (x : Wcc) (h : 0 < x.vals.length) : x.vals[0] = .bool x.before.is := rfl
theorem Wcc.lat0 (x : Wcc) : x.vals[0]? = some (.bool x.before.is) := rfl
theorem Wcc.at1 (x : Wcc) (h : 1 < x.vals.length) : x.vals[1] = .int .i64 x.before.n := rfl
theorem Wcc.lat1 (x : Wcc) : x.vals[1]? = some (.int .i64 x.before.n) := rfl
theorem Wcc.at2 (x : Wcc) (h : 2 < x.vals.length) : x.vals[2] = .bool x.after.is := rfl
theorem Wcc.lat2 (x : Wcc) : x.vals[2]? = some (.bool x.after.is) := rfl
theorem Wcc.at3 (x : Wcc) (h : 3 < x.vals.length) : x.vals[3] = .int .i64 x.after.attr.type := rfl
theorem Wcc.lat3 (x : Wcc) : x.vals[3]? = some (.int .i64 x.after.attr.type) := rfl
theorem Wcc.at4 (x : Wcc) (h : 4 < x.vals.length) : x.vals[4] = .int .i64 x.after.attr.mode := rfl
theorem Wcc.lat4 (x : Wcc) : x.vals[4]? = some (.int .i64 x.after.attr.mode) := rfl
theorem Wcc.at5 (x : Wcc) (h : 5 < x.vals.length) : x.vals[5] = .int .i64 x.after.attr.nlink := rfl
theorem Wcc.lat5 (x : Wcc) : x.vals[5]? = some (.int .i64 x.after.attr.nlink) := rfl
theorem Wcc.at6 (x : Wcc) (h : 6 < x.vals.length) : x.vals[6] = .int .i64 x.after.attr.uid := rfl
theorem Wcc.lat6 (x : Wcc) : x.vals[6]? = some (.int .i64 x.after.attr.uid) := rfl
theorem Wcc.at7 (x : Wcc) (h : 7 < x.vals.length) : x.vals[7] = .int .i64 x.after.attr.gid := rfl
theorem Wcc.lat7 (x : Wcc) : x.vals[7]? = some (.int .i64 x.after.attr.gid) := rfl
theorem Wcc.at8 (x : Wcc) (h : 8 < x.vals.length) : x.vals[8] = .int .i64 x.after.attr.size := rfl
theorem Wcc.lat8 (x : Wcc) : x.vals[8]? = some (.int .i64 x.after.attr.size) := rfl
theorem Wcc.at9 (x : Wcc) (h : 9 < x.vals.length) : x.vals[9] = .int .i64 x.after.attr.id := rfl
theorem Wcc.lat9 (x : Wcc) : x.vals[9]? = some (.int .i64 x.after.attr.id) := rfl
theorem Wcc.at10 (x : Wcc) (h : 10 < x.vals.length) : x.vals[10] = .int .i64 x.after.attr.gen := rfl
theorem Wcc.lat10 (x : Wcc) : x.vals[10]? = some (.int .i64 x.after.attr.gen) := rfl
theorem Wcc.at11 (x : Wcc) (h : 11 < x.vals.length) : x.vals[11] = .int .i64 x.after.attr.change := rfl
theorem Wcc.lat11 (x : Wcc) : x.vals[11]? = some (.int .i64 x.after.attr.change) := rfl
theorem Wcc.at12 (x : Wcc) (h : 12 < x.vals.length) : x.vals[12] = .int .i64 x.after.attr.time := rfl
theorem Wcc.lat12 (x : Wcc) : x.vals[12]? = some (.int .i64 x.after.attr.time) := rfl
theorem Wcc.sub0_13 (x : Wcc) : x.vals.toArray.extract 0 13 = x.vals.toArray := (List.extract_toArray ..).trans (congrArg List.toArray (show _ = x.vals from rfl))
theorem Wcc.lsub0_13 (x : Wcc) : x.vals.take 13 = x.vals := rfl
theorem Wcc.sub0_2 (x : Wcc) : x.vals.toArray.extract 0 2 = x.before.vals.toArray := (List.extract_toArray ..).trans (congrArg List.toArray (show _ = x.before.vals from rfl))
theorem Wcc.lsub0_2 (x : Wcc) : x.vals.take 2 = x.before.vals := rfl
theorem Wcc.sub2_11 (x : Wcc) : x.vals.toArray.extract 2 13 = x.after.vals.toArray := (List.extract_toArray ..).trans (congrArg List.toArray (show _ = x.after.vals from rfl))
theorem Wcc.lsub2_11 (x : Wcc) : (x.vals.drop 2).take 11 = x.after.vals := rfl
theorem Wcc.sub3_10 (x : Wcc) : x.vals.toArray.extract 3 13 = x.after.attr.vals.toArray := (List.extract_toArray ..).trans (congrArg List.toArray (show _ = x.after.attr.vals from rfl))
theorem Wcc.lsub3_10 (x : Wcc) : (x.vals.drop 3).take 10 = x.after.attr.vals := rfl
def Wcc.good (x : Wcc) : Prop := x.before.good ∧ x.after.good

end Go.Proofs.YtfjflkmhhbhceaaGreatDoor


/-
  Layer 1 in plain words: numbers and texts in fields of four bytes, written and read. No condition.
-/
namespace Go.Proofs.YtfjflkmhhbhceaaGreatDoor
open Go.RowKit

/-- a text of these bytes -/
abbrev bs (l : List UInt8) : ByteArray := ⟨l.toArray⟩
theorem bs_list (s : ByteArray) : bs s.data.toList = s := by cases s; simp [bs]
theorem bs_size (l : List UInt8) : (bs l).size = l.length := rfl
theorem bs_inj {a b : List UInt8} (h : bs a = bs b) : a = b := by
  have : (bs a).data.toList = (bs b).data.toList := by rw [h]
  simpa using this
theorem bs_append (a b : List UInt8) : bs a ++ bs b = bs (a ++ b) := ByteArray.mk_append_mk a b
theorem bs_get (s : List UInt8) (i : Nat) (h : i < (bs s).size) : (bs s)[i]'h = s[i]'h := rfl
theorem bs_take (s : List UInt8) (n : Nat) : (bs s).extract 0 n = bs (s.take n) := by
  apply ByteArray.ext
  simp [List.extract]
theorem bs_drop (s : List UInt8) (n : Nat) : (bs s).extract n s.length = bs (s.drop n) := by
  apply ByteArray.ext
  simp [List.extract]
  rw [List.take_of_length_le (by simp)]
theorem ofNat_mod (q : Nat) : UInt8.ofNat (q % 256) = UInt8.ofNat q := by apply UInt8.toNat_inj.1; simp
def u8 (b : UInt8) : Value := .int .u8 b.toNat
theorem u8_one (l : List UInt8) : ∀ u ∈ l.map u8, u.oneCell' = true := by
  intro u hu; obtain ⟨b, _, rfl⟩ := List.mem_map.1 hu; rfl
theorem u8_wrap (n : Nat) : IntKind.u8.wrap (n : Int) = ((UInt8.ofNat n).toNat : Int) := by
  rw [IntKind.wrap_u8]; simp
theorem shr_byte (n m : Nat) (hm : 1 ≤ m) (hm8 : m ≤ 8) : Op.shift .shr .i64 (n : Int) .i64 (IntKind.i64.wrap (8 * ((m : Int) - 1))) = pure (.int .i64 ((n / 256 ^ (m - 1) : Nat) : Int)) := by
  rw [IntWalk.i64_in _ (by omega), shift_shr .i64 .i64 _ _ (by omega) (by show 8 * ((m : Int) - 1) ≤ 64; omega)]
  have e : (8 * ((m : Int) - 1)).toNat = 8 * (m - 1) := by omega
  have e2 : ((2 : Int) ^ (8 * (m - 1))) = ((256 ^ (m - 1) : Nat) : Int) := by
    rw [show (256 : Nat) = 2 ^ 8 by rfl, ← Nat.pow_mul, Int.natCast_pow]; rfl
  rw [e, e2]
  rfl

/-- a number's bytes, the highest first -/
def num (n : Nat) : Nat → List UInt8
  | 0 => []
  | k + 1 => num (n / 256) k ++ [UInt8.ofNat n]
theorem num_len (n k : Nat) : (num n k).length = k := by
  induction k generalizing n with
  | zero => rfl
  | succ k ih => simp [num, ih]
/-- the same, from the highest down -/
theorem num_cons (n k : Nat) : num n (k + 1) = UInt8.ofNat (n / 256 ^ k) :: num n k := by
  induction k generalizing n with
  | zero => simp [num]
  | succ k ih =>
    rw [num, ih (n / 256)]
    simp only [List.cons_append]
    rw [Nat.div_div_eq_div_mul, ← Nat.pow_succ']
    rfl
def padn (n : Nat) : Nat := (4 - n % 4) % 4
theorem padn_lt (n : Nat) : padn n < 4 := Nat.mod_lt _ (by omega)
def filled (l : List UInt8) : List UInt8 := l ++ List.replicate (padn l.length) 0
theorem filled_len (l : List UInt8) : (filled l).length = l.length + padn l.length := by simp [filled]
def opq (l : List UInt8) : List UInt8 := num l.length 4 ++ filled l
def truth (b : Bool) : List UInt8 := num (if b then 1 else 0) 4
def optB (b : Bool) (n : Int) : List UInt8 := truth b ++ (if b then num n.toNat 8 else [])

/-- a number out of its bytes -/
def beVal : List UInt8 → Nat
  | [] => 0
  | b :: l => b.toNat * 256 ^ l.length + beVal l
theorem beVal_snoc (l : List UInt8) (b : UInt8) : beVal (l ++ [b]) = beVal l * 256 + b.toNat := by
  induction l with
  | nil => simp [beVal]
  | cons c l ih =>
    simp only [List.cons_append, beVal, ih, List.length_append, List.length_cons, List.length_nil, Nat.zero_add, Nat.pow_succ, Nat.add_mul]
    rw [Nat.mul_assoc]; omega
theorem beVal_lt (l : List UInt8) : beVal l < 256 ^ l.length := by
  induction l with
  | nil => simp [beVal]
  | cons b l ih =>
    simp only [beVal, List.length_cons, Nat.pow_succ]
    have : b.toNat ≤ 255 := by have := b.toNat_lt; omega
    have h2 := Nat.mul_le_mul_right (256 ^ l.length) this
    omega
theorem beVal_num (n k : Nat) (h : n < 256 ^ k) : beVal (num n k) = n := by
  induction k generalizing n with
  | zero => simp [num, beVal] at *; omega
  | succ k ih =>
    rw [num, beVal_snoc, ih (n / 256) (by rw [Nat.pow_succ] at h; omega)]
    simp; omega
/-- a reader: what is left, and the first error -/
structure Rs where
  s : List UInt8
  e : Int
  deriving DecidableEq
def Rs.fail (e : Int) : Rs := ⟨[], e⟩
def rNum (k : Nat) (r : Rs) : Nat × Rs :=
  if r.e ≠ 0 then (0, r) else if r.s.length < k then (0, Rs.fail 10) else (beVal (r.s.take k), ⟨r.s.drop k, 0⟩)
def rU32 (r : Rs) : Nat × Rs := rNum 4 r
def rU64 (r : Rs) : Nat × Rs := if 9223372036854775808 ≤ (rNum 8 r).1 then (0, Rs.fail 3) else rNum 8 r
def rBool (r : Rs) : Bool × Rs := if 1 < (rU32 r).1 then (false, Rs.fail 13) else ((rU32 r).1 == 1, (rU32 r).2)
def rOpt (r : Rs) : (Bool × Nat) × Rs :=
  if (rBool r).1 then (if (rU64 (rBool r).2).2.e ≠ 0 then ((false, 0), (rU64 (rBool r).2).2) else ((true, (rU64 (rBool r).2).1), (rU64 (rBool r).2).2)) else ((false, 0), (rBool r).2)
/-- a text of n bytes, and what fills it up -/
def rPadded (n : Nat) (r : Rs) : List UInt8 × Rs :=
  if r.e ≠ 0 then ([], r)
  else if r.s.length < n then ([], Rs.fail 10)
  else if (r.s.drop n).length < padn n then ([], Rs.fail 10)
  else if ((r.s.drop n).take (padn n)).all (· == 0) then (r.s.take n, ⟨(r.s.drop n).drop (padn n), 0⟩)
  else ([], Rs.fail 11)
def rFixed (n : Int) (r : Rs) : List UInt8 × Rs := if r.e ≠ 0 then ([], r) else if n < 0 then ([], Rs.fail 2) else rPadded n.toNat r
def rOpaque (most : Int) (r : Rs) : List UInt8 × Rs :=
  if (rU32 r).2.e ≠ 0 then ([], (rU32 r).2) else if most < ((rU32 r).1 : Int) then ([], Rs.fail 4) else rPadded (rU32 r).1 (rU32 r).2
def rLeft (r : Rs) : Nat := if r.e ≠ 0 then 0 else r.s.length
def rDone (r : Rs) : Int := if r.e ≠ 0 then r.e else if 0 < r.s.length then 12 else 0

end Go.Proofs.YtfjflkmhhbhceaaGreatDoor


/-
  The data of results as plain structures, and the cells that each takes (written by wip/tools/structs.py). No condition.
-/
namespace Go.Proofs.YtfjflkmhhbhceaaGreatDoor
open Go.RowKit

structure Reply where
  status : Int
  fh : List UInt8
  obj : Post
  dir : Post
  wcc : Wcc
  wcc2 : Wcc
  access : Int
  count : Int
  eof : Bool
  data : List UInt8
  stable : Int
  verf : Int
  ea : Option Addr
  en : Nat
  ec : Nat
  ua : Option Addr
  un : Nat
  uc : Nat
def Reply.vals (x : Reply) : List Value := [.int .i64 x.status, .string (bs x.fh)] ++ (x.obj.vals ++ (x.dir.vals ++ (x.wcc.vals ++ (x.wcc2.vals ++ [.int .i64 x.access, .int .i64 x.count, .bool x.eof, .string (bs x.data), .int .i64 x.stable, .int .i64 x.verf, .slice x.ea x.en x.ec, .slice x.ua x.un x.uc]))))
theorem Reply.len (x : Reply) : x.vals.length = 58 := rfl
theorem Reply.one (x : Reply) : ∀ v ∈ x.vals, v.oneCell' = true := by
  intro v hv
  unfold Reply.vals at hv
  rcases List.mem_append.1 hv with hv | hv
  · simp only [List.mem_cons, List.not_mem_nil, or_false] at hv
    rcases hv with rfl | rfl <;> rfl
  · rcases List.mem_append.1 hv with hv | hv
    · exact Post.one _ v hv
    · rcases List.mem_append.1 hv with hv | hv
      · exact Post.one _ v hv
      · rcases List.mem_append.1 hv with hv | hv
        · exact Wcc.one _ v hv
        · rcases List.mem_append.1 hv with hv | hv
          · exact Wcc.one _ v hv
          · simp only [List.mem_cons, List.not_mem_nil, or_false] at hv
            rcases hv with rfl | rfl | rfl | rfl | rfl | rfl | rfl | rfl <;> rfl
theorem Reply.at0 (x : Reply) (h : 0 < x.vals.length) : x.vals[0] = .int .i64 x.status := rfl
theorem Reply.lat0 (x : Reply) : x.vals[0]? = some (.int .i64 x.status) := rfl
theorem Reply.at1 (x : Reply) (h : 1 < x.vals.length) : x.vals[1] = .string (bs x.fh) := rfl
theorem Reply.lat1 (x : Reply) : x.vals[1]? = some (.string (bs x.fh)) := rfl
theorem Reply.at2 (x : Reply) (h : 2 < x.vals.length) : x.vals[2] = .bool x.obj.is := rfl
theorem Reply.lat2 (x : Reply) : x.vals[2]? = some (.bool x.obj.is) := rfl
theorem Reply.at3 (x : Reply) (h : 3 < x.vals.length) : x.vals[3] = .int .i64 x.obj.attr.type := rfl
theorem Reply.lat3 (x : Reply) : x.vals[3]? = some (.int .i64 x.obj.attr.type) := rfl
theorem Reply.at4 (x : Reply) (h : 4 < x.vals.length) : x.vals[4] = .int .i64 x.obj.attr.mode := rfl
theorem Reply.lat4 (x : Reply) : x.vals[4]? = some (.int .i64 x.obj.attr.mode) := rfl
theorem Reply.at5 (x : Reply) (h : 5 < x.vals.length) : x.vals[5] = .int .i64 x.obj.attr.nlink := rfl
theorem Reply.lat5 (x : Reply) : x.vals[5]? = some (.int .i64 x.obj.attr.nlink) := rfl
theorem Reply.at6 (x : Reply) (h : 6 < x.vals.length) : x.vals[6] = .int .i64 x.obj.attr.uid := rfl
theorem Reply.lat6 (x : Reply) : x.vals[6]? = some (.int .i64 x.obj.attr.uid) := rfl
theorem Reply.at7 (x : Reply) (h : 7 < x.vals.length) : x.vals[7] = .int .i64 x.obj.attr.gid := rfl
theorem Reply.lat7 (x : Reply) : x.vals[7]? = some (.int .i64 x.obj.attr.gid) := rfl
theorem Reply.at8 (x : Reply) (h : 8 < x.vals.length) : x.vals[8] = .int .i64 x.obj.attr.size := rfl
theorem Reply.lat8 (x : Reply) : x.vals[8]? = some (.int .i64 x.obj.attr.size) := rfl
theorem Reply.at9 (x : Reply) (h : 9 < x.vals.length) : x.vals[9] = .int .i64 x.obj.attr.id := rfl
theorem Reply.lat9 (x : Reply) : x.vals[9]? = some (.int .i64 x.obj.attr.id) := rfl
theorem Reply.at10 (x : Reply) (h : 10 < x.vals.length) : x.vals[10] = .int .i64 x.obj.attr.gen := rfl
theorem Reply.lat10 (x : Reply) : x.vals[10]? = some (.int .i64 x.obj.attr.gen) := rfl
theorem Reply.at11 (x : Reply) (h : 11 < x.vals.length) : x.vals[11] = .int .i64 x.obj.attr.change := rfl
theorem Reply.lat11 (x : Reply) : x.vals[11]? = some (.int .i64 x.obj.attr.change) := rfl
theorem Reply.at12 (x : Reply) (h : 12 < x.vals.length) : x.vals[12] = .int .i64 x.obj.attr.time := rfl
theorem Reply.lat12 (x : Reply) : x.vals[12]? = some (.int .i64 x.obj.attr.time) := rfl
theorem Reply.at13 (x : Reply) (h : 13 < x.vals.length) : x.vals[13] = .bool x.dir.is := rfl
theorem Reply.lat13 (x : Reply) : x.vals[13]? = some (.bool x.dir.is) := rfl
theorem Reply.at14 (x : Reply) (h : 14 < x.vals.length) : x.vals[14] = .int .i64 x.dir.attr.type := rfl
theorem Reply.lat14 (x : Reply) : x.vals[14]? = some (.int .i64 x.dir.attr.type) := rfl
theorem Reply.at15 (x : Reply) (h : 15 < x.vals.length) : x.vals[15] = .int .i64 x.dir.attr.mode := rfl
theorem Reply.lat15 (x : Reply) : x.vals[15]? = some (.int .i64 x.dir.attr.mode) := rfl
theorem Reply.at16 (x : Reply) (h : 16 < x.vals.length) : x.vals[16] = .int .i64 x.dir.attr.nlink := rfl
theorem Reply.lat16 (x : Reply) : x.vals[16]? = some (.int .i64 x.dir.attr.nlink) := rfl
theorem Reply.at17 (x : Reply) (h : 17 < x.vals.length) : x.vals[17] = .int .i64 x.dir.attr.uid := rfl
theorem Reply.lat17 (x : Reply) : x.vals[17]? = some (.int .i64 x.dir.attr.uid) := rfl
theorem Reply.at18 (x : Reply) (h : 18 < x.vals.length) : x.vals[18] = .int .i64 x.dir.attr.gid := rfl
theorem Reply.lat18 (x : Reply) : x.vals[18]? = some (.int .i64 x.dir.attr.gid) := rfl
theorem Reply.at19 (x : Reply) (h : 19 < x.vals.length) : x.vals[19] = .int .i64 x.dir.attr.size := rfl
theorem Reply.lat19 (x : Reply) : x.vals[19]? = some (.int .i64 x.dir.attr.size) := rfl
theorem Reply.at20 (x : Reply) (h : 20 < x.vals.length) : x.vals[20] = .int .i64 x.dir.attr.id := rfl
theorem Reply.lat20 (x : Reply) : x.vals[20]? = some (.int .i64 x.dir.attr.id) := rfl
theorem Reply.at21 (x : Reply) (h : 21 < x.vals.length) : x.vals[21] = .int .i64 x.dir.attr.gen := rfl
theorem Reply.lat21 (x : Reply) : x.vals[21]? = some (.int .i64 x.dir.attr.gen) := rfl
theorem Reply.at22 (x : Reply) (h : 22 < x.vals.length) : x.vals[22] = .int .i64 x.dir.attr.change := rfl
theorem Reply.lat22 (x : Reply) : x.vals[22]? = some (.int .i64 x.dir.attr.change) := rfl
theorem Reply.at23 (x : Reply) (h : 23 < x.vals.length) : x.vals[23] = .int .i64 x.dir.attr.time := rfl
theorem Reply.lat23 (x : Reply) : x.vals[23]? = some (.int .i64 x.dir.attr.time) := rfl
theorem Reply.at24 (x : Reply) (h : 24 < x.vals.length) : x.vals[24] = .bool x.wcc.before.is := rfl
theorem Reply.lat24 (x : Reply) : x.vals[24]? = some (.bool x.wcc.before.is) := rfl
theorem Reply.at25 (x : Reply) (h : 25 < x.vals.length) : x.vals[25] = .int .i64 x.wcc.before.n := rfl
theorem Reply.lat25 (x : Reply) : x.vals[25]? = some (.int .i64 x.wcc.before.n) := rfl
theorem Reply.at26 (x : Reply) (h : 26 < x.vals.length) : x.vals[26] = .bool x.wcc.after.is := rfl
theorem Reply.lat26 (x : Reply) : x.vals[26]? = some (.bool x.wcc.after.is) := rfl
theorem Reply.at27 (x : Reply) (h : 27 < x.vals.length) : x.vals[27] = .int .i64 x.wcc.after.attr.type := rfl
theorem Reply.lat27 (x : Reply) : x.vals[27]? = some (.int .i64 x.wcc.after.attr.type) := rfl
theorem Reply.at28 (x : Reply) (h : 28 < x.vals.length) : x.vals[28] = .int .i64 x.wcc.after.attr.mode := rfl
theorem Reply.lat28 (x : Reply) : x.vals[28]? = some (.int .i64 x.wcc.after.attr.mode) := rfl
theorem Reply.at29 (x : Reply) (h : 29 < x.vals.length) : x.vals[29] = .int .i64 x.wcc.after.attr.nlink := rfl
theorem Reply.lat29 (x : Reply) : x.vals[29]? = some (.int .i64 x.wcc.after.attr.nlink) := rfl
theorem Reply.at30 (x : Reply) (h : 30 < x.vals.length) : x.vals[30] = .int .i64 x.wcc.after.attr.uid := rfl
theorem Reply.lat30 (x : Reply) : x.vals[30]? = some (.int .i64 x.wcc.after.attr.uid) := rfl
theorem Reply.at31 (x : Reply) (h : 31 < x.vals.length) : x.vals[31] = .int .i64 x.wcc.after.attr.gid := rfl
theorem Reply.lat31 (x : Reply) : x.vals[31]? = some (.int .i64 x.wcc.after.attr.gid) := rfl
theorem Reply.at32 (x : Reply) (h : 32 < x.vals.length) : x.vals[32] = .int .i64 x.wcc.after.attr.size := rfl
theorem Reply.lat32 (x : Reply) : x.vals[32]? = some (.int .i64 x.wcc.after.attr.size) := rfl
theorem Reply.at33 (x : Reply) (h : 33 < x.vals.length) : x.vals[33] = .int .i64 x.wcc.after.attr.id := rfl
theorem Reply.lat33 (x : Reply) : x.vals[33]? = some (.int .i64 x.wcc.after.attr.id) := rfl
theorem Reply.at34 (x : Reply) (h : 34 < x.vals.length) : x.vals[34] = .int .i64 x.wcc.after.attr.gen := rfl
theorem Reply.lat34 (x : Reply) : x.vals[34]? = some (.int .i64 x.wcc.after.attr.gen) := rfl
theorem Reply.at35 (x : Reply) (h : 35 < x.vals.length) : x.vals[35] = .int .i64 x.wcc.after.attr.change := rfl
theorem Reply.lat35 (x : Reply) : x.vals[35]? = some (.int .i64 x.wcc.after.attr.change) := rfl
theorem Reply.at36 (x : Reply) (h : 36 < x.vals.length) : x.vals[36] = .int .i64 x.wcc.after.attr.time := rfl
theorem Reply.lat36 (x : Reply) : x.vals[36]? = some (.int .i64 x.wcc.after.attr.time) := rfl
theorem Reply.at37 (x : Reply) (h : 37 < x.vals.length) : x.vals[37] = .bool x.wcc2.before.is := rfl
theorem Reply.lat37 (x : Reply) : x.vals[37]? = some (.bool x.wcc2.before.is) := rfl
theorem Reply.at38 (x : Reply) (h : 38 < x.vals.length) : x.vals[38] = .int .i64 x.wcc2.before.n := rfl
theorem Reply.lat38 (x : Reply) : x.vals[38]? = some (.int .i64 x.wcc2.before.n) := rfl
theorem Reply.at39 (x : Reply) (h : 39 < x.vals.length) : x.vals[39] = .bool x.wcc2.after.is := rfl
theorem Reply.lat39 (x : Reply) : x.vals[39]? = some (.bool x.wcc2.after.is) := rfl
theorem Reply.at40 (x : Reply) (h : 40 < x.vals.length) : x.vals[40] = .int .i64 x.wcc2.after.attr.type := rfl
theorem Reply.lat40 (x : Reply) : x.vals[40]? = some (.int .i64 x.wcc2.after.attr.type) := rfl
theorem Reply.at41 (x : Reply) (h : 41 < x.vals.length) : x.vals[41] = .int .i64 x.wcc2.after.attr.mode := rfl
theorem Reply.lat41 (x : Reply) : x.vals[41]? = some (.int .i64 x.wcc2.after.attr.mode) := rfl
theorem Reply.at42 (x : Reply) (h : 42 < x.vals.length) : x.vals[42] = .int .i64 x.wcc2.after.attr.nlink := rfl
theorem Reply.lat42 (x : Reply) : x.vals[42]? = some (.int .i64 x.wcc2.after.attr.nlink) := rfl
theorem Reply.at43 (x : Reply) (h : 43 < x.vals.length) : x.vals[43] = .int .i64 x.wcc2.after.attr.uid := rfl
theorem Reply.lat43 (x : Reply) : x.vals[43]? = some (.int .i64 x.wcc2.after.attr.uid) := rfl
theorem Reply.at44 (x : Reply) (h : 44 < x.vals.length) : x.vals[44] = .int .i64 x.wcc2.after.attr.gid := rfl
theorem Reply.lat44 (x : Reply) : x.vals[44]? = some (.int .i64 x.wcc2.after.attr.gid) := rfl
theorem Reply.at45 (x : Reply) (h : 45 < x.vals.length) : x.vals[45] = .int .i64 x.wcc2.after.attr.size := rfl
theorem Reply.lat45 (x : Reply) : x.vals[45]? = some (.int .i64 x.wcc2.after.attr.size) := rfl
theorem Reply.at46 (x : Reply) (h : 46 < x.vals.length) : x.vals[46] = .int .i64 x.wcc2.after.attr.id := rfl
theorem Reply.lat46 (x : Reply) : x.vals[46]? = some (.int .i64 x.wcc2.after.attr.id) := rfl
theorem Reply.at47 (x : Reply) (h : 47 < x.vals.length) : x.vals[47] = .int .i64 x.wcc2.after.attr.gen := rfl
theorem Reply.lat47 (x : Reply) : x.vals[47]? = some (.int .i64 x.wcc2.after.attr.gen) := rfl
theorem Reply.at48 (x : Reply) (h : 48 < x.vals.length) : x.vals[48] = .int .i64 x.wcc2.after.attr.change := rfl
theorem Reply.lat48 (x : Reply) : x.vals[48]? = some (.int .i64 x.wcc2.after.attr.change) := rfl
theorem Reply.at49 (x : Reply) (h : 49 < x.vals.length) : x.vals[49] = .int .i64 x.wcc2.after.attr.time := rfl
theorem Reply.lat49 (x : Reply) : x.vals[49]? = some (.int .i64 x.wcc2.after.attr.time) := rfl
theorem Reply.at50 (x : Reply) (h : 50 < x.vals.length) : x.vals[50] = .int .i64 x.access := rfl
theorem Reply.lat50 (x : Reply) : x.vals[50]? = some (.int .i64 x.access) := rfl
theorem Reply.at51 (x : Reply) (h : 51 < x.vals.length) : x.vals[51] = .int .i64 x.count := rfl
theorem Reply.lat51 (x : Reply) : x.vals[51]? = some (.int .i64 x.count) := rfl
theorem Reply.at52 (x : Reply) (h : 52 < x.vals.length) : x.vals[52] = .bool x.eof := rfl
theorem Reply.lat52 (x : Reply) : x.vals[52]? = some (.bool x.eof) := rfl
theorem Reply.at53 (x : Reply) (h : 53 < x.vals.length) : x.vals[53] = .string (bs x.data) := rfl
theorem Reply.lat53 (x : Reply) : x.vals[53]? = some (.string (bs x.data)) := rfl
theorem Reply.at54 (x : Reply) (h : 54 < x.vals.length) : x.vals[54] = .int .i64 x.stable := rfl
theorem Reply.lat54 (x : Reply) : x.vals[54]? = some (.int .i64 x.stable) := rfl
theorem Reply.at55 (x : Reply) (h : 55 < x.vals.length) : x.vals[55] = .int .i64 x.verf := rfl
theorem Reply.lat55 (x : Reply) : x.vals[55]? = some (.int .i64 x.verf) := rfl
theorem Reply.at56 (x : Reply) (h : 56 < x.vals.length) : x.vals[56] = .slice x.ea x.en x.ec := rfl
theorem Reply.lat56 (x : Reply) : x.vals[56]? = some (.slice x.ea x.en x.ec) := rfl
theorem Reply.at57 (x : Reply) (h : 57 < x.vals.length) : x.vals[57] = .slice x.ua x.un x.uc := rfl
theorem Reply.lat57 (x : Reply) : x.vals[57]? = some (.slice x.ua x.un x.uc) := rfl
theorem Reply.sub0_58 (x : Reply) : x.vals.toArray.extract 0 58 = x.vals.toArray := (List.extract_toArray ..).trans (congrArg List.toArray (show _ = x.vals from rfl))
theorem Reply.lsub0_58 (x : Reply) : x.vals.take 58 = x.vals := rfl
theorem Reply.sub2_11 (x : Reply) : x.vals.toArray.extract 2 13 = x.obj.vals.toArray := (List.extract_toArray ..).trans (congrArg List.toArray (show _ = x.obj.vals from rfl))
theorem Reply.lsub2_11 (x : Reply) : (x.vals.drop 2).take 11 = x.obj.vals := rfl
theorem Reply.sub3_10 (x : Reply) : x.vals.toArray.extract 3 13 = x.obj.attr.vals.toArray := (List.extract_toArray ..).trans (congrArg List.toArray (show _ = x.obj.attr.vals from rfl))
theorem Reply.lsub3_10 (x : Reply) : (x.vals.drop 3).take 10 = x.obj.attr.vals := rfl
theorem Reply.sub13_11 (x : Reply) : x.vals.toArray.extract 13 24 = x.dir.vals.toArray := (List.extract_toArray ..).trans (congrArg List.toArray (show _ = x.dir.vals from rfl))
theorem Reply.lsub13_11 (x : Reply) : (x.vals.drop 13).take 11 = x.dir.vals := rfl
theorem Reply.sub14_10 (x : Reply) : x.vals.toArray.extract 14 24 = x.dir.attr.vals.toArray := (List.extract_toArray ..).trans (congrArg List.toArray (show _ = x.dir.attr.vals from rfl))
theorem Reply.lsub14_10 (x : Reply) : (x.vals.drop 14).take 10 = x.dir.attr.vals := rfl
theorem Reply.sub24_13 (x : Reply) : x.vals.toArray.extract 24 37 = x.wcc.vals.toArray := (List.extract_toArray ..).trans (congrArg List.toArray (show _ = x.wcc.vals from rfl))
theorem Reply.lsub24_13 (x : Reply) : (x.vals.drop 24).take 13 = x.wcc.vals := rfl
theorem Reply.sub24_2 (x : Reply) : x.vals.toArray.extract 24 26 = x.wcc.before.vals.toArray := (List.extract_toArray ..).trans (congrArg List.toArray (show _ = x.wcc.before.vals from rfl))
theorem Reply.lsub24_2 (x : Reply) : (x.vals.drop 24).take 2 = x.wcc.before.vals := rfl
theorem Reply.sub26_11 (x : Reply) : x.vals.toArray.extract 26 37 = x.wcc.after.vals.toArray := (List.extract_toArray ..).trans (congrArg List.toArray (show _ = x.wcc.after.vals from rfl))
theorem Reply.lsub26_11 (x : Reply) : (x.vals.drop 26).take 11 = x.wcc.after.vals := rfl
theorem Reply.sub27_10 (x : Reply) : x.vals.toArray.extract 27 37 = x.wcc.after.attr.vals.toArray := (List.extract_toArray ..).trans (congrArg List.toArray (show _ = x.wcc.after.attr.vals from rfl))
theorem Reply.lsub27_10 (x : Reply) : (x.vals.drop 27).take 10 = x.wcc.after.attr.vals := rfl
theorem Reply.sub37_13 (x : Reply) : x.vals.toArray.extract 37 50 = x.wcc2.vals.toArray := (List.extract_toArray ..).trans (congrArg List.toArray (show _ = x.wcc2.vals from rfl))
theorem Reply.lsub37_13 (x : Reply) : (x.vals.drop 37).take 13 = x.wcc2.vals := rfl
theorem Reply.sub37_2 (x : Reply) : x.vals.toArray.extract 37 39 = x.wcc2.before.vals.toArray := (List.extract_toArray ..).trans (congrArg List.toArray (show _ = x.wcc2.before.vals from rfl))
theorem Reply.lsub37_2 (x : Reply) : (x.vals.drop 37).take 2 = x.wcc2.before.vals := rfl
theorem Reply.sub39_11 (x : Reply) : x.vals.toArray.extract 39 50 = x.wcc2.after.vals.toArray := (List.extract_toArray ..).trans (congrArg List.toArray (show _ = x.wcc2.after.vals from rfl))
theorem Reply.lsub39_11 (x : Reply) : (x.vals.drop 39).take 11 = x.wcc2.after.vals := rfl
theorem Reply.sub40_10 (x : Reply) : x.vals.toArray.extract 40 50 = x.wcc2.after.attr.vals.toArray := (List.extract_toArray ..).trans (congrArg List.toArray (show _ = x.wcc2.after.attr.vals from rfl))
theorem Reply.lsub40_10 (x : Reply) : (x.vals.drop 40).take 10 = x.wcc2.after.attr.vals := rfl
def Reply.good (x : Reply) : Prop := (Lit.int .i64 x.status).wf = true ∧ x.fh.length ≤ maxLen ∧ x.obj.good ∧ x.dir.good ∧ x.wcc.good ∧ x.wcc2.good ∧ (Lit.int .i64 x.access).wf = true ∧ (Lit.int .i64 x.count).wf = true ∧ x.data.length ≤ maxLen ∧ (Lit.int .i64 x.stable).wf = true ∧ (Lit.int .i64 x.verf).wf = true ∧ x.en ≤ maxLen ∧ x.un ≤ maxLen

structure Flds where
  status : Int
  fh : List UInt8
  data : List UInt8
  obj : Post
  dir : Post
  wcc : Wcc
  wcc2 : Wcc
  access : Int
  count : Int
  stable : Int
  verf : Int
  eof : Bool
  deriving DecidableEq
def Flds.vals (x : Flds) : List Value := [.int .i64 x.status, .string (bs x.fh), .string (bs x.data)] ++ (x.obj.vals ++ (x.dir.vals ++ (x.wcc.vals ++ (x.wcc2.vals ++ [.int .i64 x.access, .int .i64 x.count, .int .i64 x.stable, .int .i64 x.verf, .bool x.eof]))))
theorem Flds.len (x : Flds) : x.vals.length = 56 := rfl
theorem Flds.one (x : Flds) : ∀ v ∈ x.vals, v.oneCell' = true := by
  intro v hv
  unfold Flds.vals at hv
  rcases List.mem_append.1 hv with hv | hv
  · simp only [List.mem_cons, List.not_mem_nil, or_false] at hv
    rcases hv with rfl | rfl | rfl <;> rfl
  · rcases List.mem_append.1 hv with hv | hv
    · exact Post.one _ v hv
    · rcases List.mem_append.1 hv with hv | hv
      · exact Post.one _ v hv
      · rcases List.mem_append.1 hv with hv | hv
        · exact Wcc.one _ v hv
        · rcases List.mem_append.1 hv with hv | hv
          · exact Wcc.one _ v hv
          · simp only [List.mem_cons, List.not_mem_nil, or_false] at hv
            rcases hv with rfl | rfl | rfl | rfl | rfl <;> rfl
def Flds.good (x : Flds) : Prop := (Lit.int .i64 x.status).wf = true ∧ x.fh.length ≤ maxLen ∧ x.data.length ≤ maxLen ∧ x.obj.good ∧ x.dir.good ∧ x.wcc.good ∧ x.wcc2.good ∧ (Lit.int .i64 x.access).wf = true ∧ (Lit.int .i64 x.count).wf = true ∧ (Lit.int .i64 x.stable).wf = true ∧ (Lit.int .i64 x.verf).wf = true

end Go.Proofs.YtfjflkmhhbhceaaGreatDoor


/-
  Plain laws of lists: a search up to a number of elements. No condition.
-/
namespace Go.Proofs.YtfjflkmhhbhceaaGreatDoor
variable {α : Type}

theorem take_next (l : List α) (k : Nat) (hk : k < l.length) : l.take (k + 1) = l.take k ++ [l[k]] := List.take_succ_eq_append_getElem hk
/-- among the first N some one is so, or there are more than N -/
def over (p : α → Bool) (N : Nat) (l : List α) : Bool := (l.take N).any p || decide (N < l.length)
end Go.Proofs.YtfjflkmhhbhceaaGreatDoor
