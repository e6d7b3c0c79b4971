/-
  Memory words for all walks: a slice whose rows of cells are known; what a region that draws its order keeps. No condition.
-/
import Derived.WalkKit
import Derived.WalkSpells
import Derived.WalkLawsBesides
import Derived.Deep.RegionHeld3
import Derived.Deep.DrawnRows
import Derived.Deep.MidRow
import Derived.Deep.Draws
import Derived.BigQuiet
import Derived.Deep.QuietTactic
import Derived.Deep.LoopGhost
import Derived.Lib.Hide
namespace Go.Proofs.YtfjflkmhhbhceaaGreatDoor
open Go.RowKit

theorem below_then {w W W' : World} (h : Below w.heap.size w W) (hb : Below W.heap.size W W') : Below w.heap.size w W' := h.trans (hb.mono h.size)
theorem bdN {B : Nat} {a w : World} (h : Below B a w) (n : Nat) : Below B a (w.drewN n) := ⟨h.os, h.tape, h.output, h.size, h.block⟩
theorem below_new {w W : World} (o : Obj) (hb : Below (w.alloc o).heap.size (w.alloc o) W) : Below w.heap.size w W :=
  below_then ((Below.refl _ _).alloc (Nat.le_refl _) o) hb

theorem ret_int {k : IntKind} {a b : Int} (h : a = b) : Ending.returned (.int k a) = .returned (.int k b) := by rw [h]
theorem ret_bool {a b : Bool} (h : a = b) : Ending.returned (.bool a) = .returned (.bool b) := by rw [h]

/-- a slice's address and rows of cells ('sz' cells an element), all below the heap's end -/
def At (w : World) (sz : Nat) (A : Option Addr) (rows : List (List Value)) : Prop :=
  ∀ i r, rows[i]? = some r → ∃ b off, A = some ⟨b, off, none⟩ ∧ b < w.heap.size ∧ ∀ j u, r[j]? = some u → w.cell? ⟨b, off + i * sz + j, none⟩ = some u

theorem At.below {w w' : World} {sz : Nat} {A : Option Addr} {rows : List (List Value)} (h : At w sz A rows) (hb : Below w.heap.size w w') : At w' sz A rows := by
  intro i r hr
  obtain ⟨b, off, hA, hlt, hc⟩ := h i r hr
  exact ⟨b, off, hA, Nat.lt_of_lt_of_le hlt hb.size, fun j u hu => (hb.cell (p := ⟨b, _, none⟩) hlt).trans (hc j u hu)⟩
theorem At.alloc {w : World} {sz : Nat} {A : Option Addr} {rows : List (List Value)} (h : At w sz A rows) (o : Obj) : At (w.alloc o) sz A rows :=
  h.below ((Below.refl _ _).alloc (Nat.le_refl _) o)
theorem At.drew {w : World} {sz : Nat} {A : Option Addr} {rows : List (List Value)} (h : At w sz A rows) : At w.drew sz A rows := h
theorem At.nil {w : World} {sz : Nat} {A : Option Addr} : At w sz A [] := fun i r h => by simp at h
theorem At.getD {w : World} {sz : Nat} {A : Option Addr} {rows : List (List Value)} (h : At w sz A rows) {k : Nat} (hk : k < rows.length) :
    ∃ b off, A = some ⟨b, off, none⟩ ∧ b < w.heap.size ∧ ∀ j u, rows[k][j]? = some u → w.cell? ⟨b, off + k * sz + j, none⟩ = some u := h k _ (List.getElem?_eq_getElem hk)

theorem At.range {w : World} {sz : Nat} {A : Option Addr} {rows : List (List Value)} (h : At w sz A rows) {k : Nat} (hk : k < rows.length) :
    ∃ b off, A = some ⟨b, off, none⟩ ∧ b < w.heap.size ∧ w.rangeAt b (off + k * sz) rows[k] := h.getD hk

section
variable {P : Program}
theorem setCells_new (w : World) (T : TypeId) : ∀ (cs : List Value) (pre zs : List Value), zs.length = cs.length →
    (w.alloc (.cells (pre ++ zs).toArray T)).setCells w.heap.size pre.length cs = w.alloc (.cells (pre ++ cs).toArray T)
  | [], pre, zs, h => by
    have : zs = [] := List.eq_nil_of_length_eq_zero h
    subst this; rfl
  | c :: cs, pre, z :: zs, h => by
    rw [World.setCells, World.setCell_alloc_at _ _ _ _ _ rfl]
    have e : (pre ++ z :: zs).toArray.setIfInBounds pre.length c = ((pre ++ [c]) ++ zs).toArray := by simp
    rw [e]
    have := setCells_new w T cs (pre ++ [c]) zs (by simpa using h)
    rw [show (pre ++ [c]).length = pre.length + 1 by simp] at this
    rw [this]; simp

/-- 'x := v' of a struct: a new variable, and the value stored into it. -/
theorem wpList_new_struct {ops : Array Oper} {rest : List Oper} {o1 o2 : Oper} {a : Act} {w : World} {Q : Exit → Act → World → Prop} (h1 : o1.guard = none) (h2 : o2.guard = none) (T : TypeId) (ho1 : o1.op = .alloc T) (x y : Operand) (ho2 : o2.op = .store T x y)
    (C : List Value) {Z : Array Value} {n : Nat} (hinfo : (P.info? T).map (fun i => (i.zero, i.size)) = some (some (.agg Z), n)) (hsz : C.length = n) (hZ : Z.size = n) (hone : ∀ v ∈ C, v.oneCell' = true)
    (hx : (a.put o1.dst (.pointer (some ⟨w.heap.size, 0, none⟩))).eval x = .pointer (some ⟨w.heap.size, 0, none⟩)) (hy : (a.put o1.dst (.pointer (some ⟨w.heap.size, 0, none⟩))).eval y = .agg C.toArray)
    (h : wpList P ops Q rest ((a.put o1.dst (.pointer (some ⟨w.heap.size, 0, none⟩))).put o2.dst undef) (w.alloc (.cells C.toArray T))) : wpList P ops Q (o1 :: o2 :: rest) a w := by
  obtain ⟨i, hi, hzi, hsi⟩ : ∃ i, P.info? T = some i ∧ i.zero = some (.agg Z) ∧ i.size = n := by
    cases hq : P.info? T with
    | none => rw [hq] at hinfo; cases hinfo
    | some i => rw [hq] at hinfo; simp at hinfo; exact ⟨i, rfl, hinfo.1, hinfo.2⟩
  refine wpList_plain h1 fun K hK => ?_
  have hrun : (Instr.alloc T true (.tuple #[])).run P w = .ok (.pointer (some ⟨w.heap.size, 0, none⟩)) (w.alloc (.cells Z T)) := by
    simp [Instr.alloc, zeroValue, typeInfo, hi, hzi, newVar, newRow, Value.cells, go_sem]
  unfold Oper.wp execOp
  simp only [ho1, Sem.run_bind, Sem.run_pure, Result.andThen_ok, hrun]
  refine hK _ _ ?_
  refine wpList_store_mid h2 T x y ho2 w.heap.size 0 C.toArray hx hy ?_ (by simp [hi, hsi, hsz]) (all_oneCell_toArray hone) ?_
  · intro j hj
    rw [World.cell?_alloc_at _ _ _ _ rfl, World.frozen?_alloc_at _ _ _ _ rfl]
    simp at hj
    simp
    omega
  · have := setCells_new w T C [] Z.toList (by simp; omega)
    simp only [List.nil_append, List.length_nil, Array.toArray_toList] at this
    simpa [this] using h
end
theorem range_new (w : World) (C : List Value) (T : TypeId) : (w.alloc (.cells C.toArray T)).rangeAt w.heap.size 0 C := fun j v hv => by
  rw [World.cell?_alloc_at _ _ _ _ rfl]; simpa using hv

/-- n cells of a block, from an offset on -/
def rowOf (w : World) (b o n : Nat) : Option (Array Value) :=
  match w.heap[b]? with
  | some (.cells C _ _) => if o + n ≤ C.size then some (C.extract o (o + n)) else none
  | _ => none
def rowAt (w : World) (n : Nat) : Value → Option (Array Value)
  | .pointer (some ⟨b, o, none⟩) => rowOf w b o n
  | _ => none
theorem rowAt_ptr (w : World) (n b o : Nat) : rowAt w n (.pointer (some ⟨b, o, none⟩)) = rowOf w b o n := rfl

theorem rowOf_range {w : World} {b o n : Nat} {cs : Array Value} (h : rowOf w b o n = some cs) : w.rangeAt b o cs.toList ∧ cs.size = n := by
  unfold rowOf at h
  split at h
  · rename_i C T fr hb
    split at h
    · rename_i hle
      obtain rfl : C.extract o (o + n) = cs := by simpa using h
      refine ⟨fun j v hv => ?_, by simp; omega⟩
      simp only [World.cell?, hb]
      simp only [Array.toList_extract, List.extract_eq_take_drop, List.getElem?_take, List.getElem?_drop] at hv
      split at hv
      · simpa using hv
      · cases hv
    · cases h
  · cases h
theorem rowOf_of {w : World} {b o n : Nat} {cs : List Value} (h : w.rangeAt b o cs) (hn : cs.length = n) (h0 : 0 < n) : rowOf w b o n = some cs.toArray := by
  have h1 := h 0 cs[0] (List.getElem?_eq_getElem (by omega))
  unfold World.cell? at h1
  split at h1
  · rename_i C T fr hb
    have hc : ∀ j v, cs[j]? = some v → C[o + j]? = some v := fun j v hv => by
      have := h j v hv
      simpa [World.cell?, hb] using this
    have hlast := hc (n - 1) cs[n - 1] (List.getElem?_eq_getElem (by omega))
    have hsz : o + (n - 1) < C.size := (Array.getElem?_eq_some_iff.1 hlast).1
    simp only at hb
    simp only [rowOf, hb]
    rw [if_pos (by omega)]
    congr 1
    apply Array.ext
    · simp; omega
    · intro i h2 h3
      simp at h3
      have := hc i cs[i] (List.getElem?_eq_getElem h3)
      have e := (Array.getElem?_eq_some_iff.1 this).2
      simpa using e
  · cases h1

theorem rowOf_drew (w : World) (b o n : Nat) : rowOf w.drew b o n = rowOf w b o n := rfl
theorem rowOf_drewN (w : World) (b o n k : Nat) : rowOf (w.drewN k) b o n = rowOf w b o n := rfl
theorem rowOf_alloc_at (w : World) (C : Array Value) (T : TypeId) (b n : Nat) (hb : b = w.heap.size) (hn : C.size = n) : rowOf (w.alloc (.cells C T)) b 0 n = some C := by
  subst hb hn
  simp only [rowOf, heap_alloc_new]
  simp
theorem rowOf_alloc_past (w : World) (ob : Obj) (b o n : Nat) (hb : b < w.heap.size) : rowOf (w.alloc ob) b o n = rowOf w b o n := by
  simp only [rowOf, Below.heap_alloc w ob b hb]
theorem rowOf_below {B : Nat} {w w' : World} (h : Below B w w') {b : Nat} (hb : b < B) (o n : Nat) : rowOf w' b o n = rowOf w b o n := by
  simp only [rowOf, h.block b hb]

theorem ex_load {P : Program} {ρ : Operand → Value} {w : World} {dst : Option Tmp} {ty : TypeId} {pos : String} {after : Array Edge} {g : Option (Nat × Bool)} {x : Operand} (T n : Nat) {d : TypeDesc}
    (hu : P.underlying T = some d) (hd : d.isRow = true) (hi : (P.info? T).map (·.size) = some n) (h : (rowAt w n (ρ x)).isSome = true) :
    (execOp ρ ⟨dst, .load T x, ty, pos, after, g⟩).run P w = .ok (.value (.agg ((rowAt w n (ρ x)).getD #[]))) w := by
  cases hr : rowAt w n (ρ x) with
  | none => rw [hr] at h; cases h
  | some cs =>
    cases hx : ρ x with
    | pointer p =>
      rw [hx] at hr
      match p, hr with
      | some ⟨b, o, none⟩, hr =>
        have hr' : rowOf w b o n = some cs := hr
        obtain ⟨h1, h2⟩ := rowOf_range hr'
        have := run_loadAt_mid (P := P) w b o T cs.toList d h1 hu hd (by rw [hi]; simp [h2])
        unfold execOp
        simp only [hx, Sem.run_bind, Sem.run_pure, Result.andThen_ok, this, Array.toArray_toList, Option.getD_some]
    | _ => rw [hx] at hr; cases hr

theorem rowOf_new (w : World) (C : Array Value) (T : TypeId) (b o n : Nat) (hb : b = w.heap.size) (hn : o + n ≤ C.size) : rowOf (w.alloc (.cells C T)) b o n = some (C.extract o (o + n)) := by
  subst hb
  simp only [rowOf, heap_alloc_new]
  rw [if_pos hn]
theorem cell_past (w : World) (ob : Obj) (b o : Nat) (h : b < w.heap.size) : (w.alloc ob).cell? ⟨b, o, none⟩ = w.cell? ⟨b, o, none⟩ := World.cell?_of_block (Below.heap_alloc w ob b h)
theorem frozen_past (w : World) (ob : Obj) (b o : Nat) (h : b < w.heap.size) : (w.alloc ob).frozen? ⟨b, o, none⟩ = w.frozen? ⟨b, o, none⟩ := by
  simp only [World.frozen?, Below.heap_alloc w ob b h]

/-- what holds of every world that a region that draws its order comes through: all blocks of w are as they were -/
abbrev Stb (w W : World) : Prop := (∀ b o, b < w.heap.size → W.cell? ⟨b, o, none⟩ = w.cell? ⟨b, o, none⟩) ∧ (∀ b o n, b < w.heap.size → rowOf W b o n = rowOf w b o n) ∧ Below w.heap.size w W
theorem Stb.of {w W : World} (h : Below w.heap.size w W) : Stb w W := ⟨fun _ _ hb => h.cell hb, fun _ _ _ hb => rowOf_below h hb _ _, h⟩
theorem Stb.start {w : World} : Stb w w.drew := Stb.of (Below.refl _ _).drew
theorem Stb.below {w W : World} (h : Stb w W) : Below w.heap.size w W := h.2.2
theorem Stb.call {w W W' : World} (h : Stb w W) (hb : Below W.heap.size W W') : Stb w W' := Stb.of (below_then h.2.2 hb)
theorem Stb.alloc {w W : World} (h : Stb w W) (o : Obj) : Stb w (W.alloc o) := Stb.of (h.2.2.alloc h.2.2.size o)
theorem At.stb {w W : World} {sz : Nat} {A : Option Addr} {rows : List (List Value)} (h : At w sz A rows) (hs : Stb w W) : At W sz A rows := h.below hs.2.2

end Go.Proofs.YtfjflkmhhbhceaaGreatDoor

/-
  The data of the program's packages api and attr, as plain structures, and the cells that each takes (written by wip/tools/structs.py). No condition.
-/
namespace Go.Proofs.YtfjflkmhhbhceaaGreatDoor
open Go.RowKit

structure Attr where
  type : Int
  mode : Int
  nlink : Int
  uid : Int
  gid : Int
  size : Int
  id : Int
  gen : Int
  change : Int
  time : Int
  deriving DecidableEq
def Attr.vals (x : Attr) : List Value := [.int .i64 x.type, .int .i64 x.mode, .int .i64 x.nlink, .int .i64 x.uid, .int .i64 x.gid, .int .i64 x.size, .int .i64 x.id, .int .i64 x.gen, .int .i64 x.change, .int .i64 x.time]
theorem Attr.len (x : Attr) : x.vals.length = 10 := rfl
theorem Attr.one (x : Attr) : ∀ v ∈ x.vals, v.oneCell' = true := by
  intro v hv
  unfold Attr.vals at hv
  simp only [List.mem_cons, List.not_mem_nil, or_false] at hv
  rcases hv with rfl | rfl | rfl | rfl | rfl | rfl | rfl | rfl | rfl | rfl <;> rfl
theorem Attr.at0 (x : Attr) (h : 0 < x.vals.length) : x.vals[0] = .int .i64 x.type := rfl
theorem Attr.lat0 (x : Attr) : x.vals[0]? = some (.int .i64 x.type) := rfl
theorem Attr.at1 (x : Attr) (h : 1 < x.vals.length) : x.vals[1] = .int .i64 x.mode := rfl
theorem Attr.lat1 (x : Attr) : x.vals[1]? = some (.int .i64 x.mode) := rfl
theorem Attr.at2 (x : Attr) (h : 2 < x.vals.length) : x.vals[2] = .int .i64 x.nlink := rfl
theorem Attr.lat2 (x : Attr) : x.vals[2]? = some (.int .i64 x.nlink) := rfl
theorem Attr.at3 (x : Attr) (h : 3 < x.vals.length) : x.vals[3] = .int .i64 x.uid := rfl
theorem Attr.lat3 (x : Attr) : x.vals[3]? = some (.int .i64 x.uid) := rfl
theorem Attr.at4 (x : Attr) (h : 4 < x.vals.length) : x.vals[4] = .int .i64 x.gid := rfl
theorem Attr.lat4 (x : Attr) : x.vals[4]? = some (.int .i64 x.gid) := rfl
theorem Attr.at5 (x : Attr) (h : 5 < x.vals.length) : x.vals[5] = .int .i64 x.size := rfl
theorem Attr.lat5 (x : Attr) : x.vals[5]? = some (.int .i64 x.size) := rfl
theorem Attr.at6 (x : Attr) (h : 6 < x.vals.length) : x.vals[6] = .int .i64 x.id := rfl
theorem Attr.lat6 (x : Attr) : x.vals[6]? = some (.int .i64 x.id) := rfl
theorem Attr.at7 (x : Attr) (h : 7 < x.vals.length) : x.vals[7] = .int .i64 x.gen := rfl
theorem Attr.lat7 (x : Attr) : x.vals[7]? = some (.int .i64 x.gen) := rfl
theorem Attr.at8 (x : Attr) (h : 8 < x.vals.length) : x.vals[8] = .int .i64 x.change := rfl
theorem Attr.lat8 (x : Attr) : x.vals[8]? = some (.int .i64 x.change) := rfl
theorem Attr.at9 (x : Attr) (h : 9 < x.vals.length) : x.vals[9] = .int .i64 x.time := rfl
theorem Attr.lat9 (x : Attr) : x.vals[9]? = some (.int .i64 x.time) := rfl
theorem Attr.sub0_10 (x : Attr) : x.vals.toArray.extract 0 10 = x.vals.toArray := (List.extract_toArray ..).trans (congrArg List.toArray (show _ = x.vals from rfl))
theorem Attr.lsub0_10 (x : Attr) : x.vals.take 10 = x.vals := rfl
def Attr.good (x : Attr) : Prop := (Lit.int .i64 x.type).wf = true ∧ (Lit.int .i64 x.mode).wf = true ∧ (Lit.int .i64 x.nlink).wf = true ∧ (Lit.int .i64 x.uid).wf = true ∧ (Lit.int .i64 x.gid).wf = true ∧ (Lit.int .i64 x.size).wf = true ∧ (Lit.int .i64 x.id).wf = true ∧ (Lit.int .i64 x.gen).wf = true ∧ (Lit.int .i64 x.change).wf = true ∧ (Lit.int .i64 x.time).wf = true

structure Opt where
  is : Bool
  n : Int
  deriving DecidableEq
def Opt.vals (x : Opt) : List Value := [.bool x.is, .int .i64 x.n]
theorem Opt.len (x : Opt) : x.vals.length = 2 := rfl
theorem Opt.one (x : Opt) : ∀ v ∈ x.vals, v.oneCell' = true := by
  intro v hv
  unfold Opt.vals at hv
  simp only [List.mem_cons, List.not_mem_nil, or_false] at hv
  rcases hv with rfl | rfl <;> rfl
theorem Opt.at0 (x : Opt) (h : 0 < x.vals.length) : x.vals[0] = .bool x.is := rfl
theorem Opt.lat0 (x : Opt) : x.vals[0]? = some (.bool x.is) := rfl
theorem Opt.at1 (x : Opt) (h : 1 < x.vals.length) : x.vals[1] = .int .i64 x.n := rfl
theorem Opt.lat1 (x : Opt) : x.vals[1]? = some (.int .i64 x.n) := rfl
theorem Opt.sub0_2 (x : Opt) : x.vals.toArray.extract 0 2 = x.vals.toArray := (List.extract_toArray ..).trans (congrArg List.toArray (show _ = x.vals from rfl))
theorem Opt.lsub0_2 (x : Opt) : x.vals.take 2 = x.vals := rfl
def Opt.good (x : Opt) : Prop := (Lit.int .i64 x.n).wf = true

structure Sett where
  mode : Opt
  uid : Opt
  gid : Opt
  size : Opt
  time : Opt
  deriving DecidableEq
def Sett.vals (x : Sett) : List Value := x.mode.vals ++ (x.uid.vals ++ (x.gid.vals ++ (x.size.vals ++ x.time.vals)))
theorem Sett.len (x : Sett) : x.vals.length = 10 := rfl
theorem Sett.one (x : Sett) : ∀ v ∈ x.vals, v.oneCell' = true := by
  intro v hv
  unfold Sett.vals at hv
  rcases List.mem_append.1 hv with hv | hv
  · exact Opt.one _ v hv
  · rcases List.mem_append.1 hv with hv | hv
    · exact Opt.one _ v hv
    · rcases List.mem_append.1 hv with hv | hv
      · exact Opt.one _ v hv
      · rcases List.mem_append.1 hv with hv | hv
        · exact Opt.one _ v hv
        · exact Opt.one _ v hv
theorem Sett.at0 (x : Sett) (h : 0 < x.vals.length) : x.vals[0] = .bool x.mode.is := rfl
theorem Sett.lat0 (x : Sett) : x.vals[0]? = some (.bool x.mode.is) := rfl
theorem Sett.at1 (x : Sett) (h : 1 < x.vals.length) : x.vals[1] = .int .i64 x.mode.n := rfl
theorem Sett.lat1 (x : Sett) : x.vals[1]? = some (.int .i64 x.mode.n) := rfl
theorem Sett.at2 (x : Sett) (h : 2 < x.vals.length) : x.vals[2] = .bool x.uid.is := rfl
theorem Sett.lat2 (x : Sett) : x.vals[2]? = some (.bool x.uid.is) := rfl
theorem Sett.at3 (x : Sett) (h : 3 < x.vals.length) : x.vals[3] = .int .i64 x.uid.n := rfl
theorem Sett.lat3 (x : Sett) : x.vals[3]? = some (.int .i64 x.uid.n) := rfl
theorem Sett.at4 (x : Sett) (h : 4 < x.vals.length) : x.vals[4] = .bool x.gid.is := rfl
theorem Sett.lat4 (x : Sett) : x.vals[4]? = some (.bool x.gid.is) := rfl
theorem Sett.at5 (x : Sett) (h : 5 < x.vals.length) : x.vals[5] = .int .i64 x.gid.n := rfl
theorem Sett.lat5 (x : Sett) : x.vals[5]? = some (.int .i64 x.gid.n) := rfl
theorem Sett.at6 (x : Sett) (h : 6 < x.vals.length) : x.vals[6] = .bool x.size.is := rfl
theorem Sett.lat6 (x : Sett) : x.vals[6]? = some (.bool x.size.is) := rfl
theorem Sett.at7 (x : Sett) (h : 7 < x.vals.length) : x.vals[7] = .int .i64 x.size.n := rfl
theorem Sett.lat7 (x : Sett) : x.vals[7]? = some (.int .i64 x.size.n) := rfl
theorem Sett.at8 (x : Sett) (h : 8 < x.vals.length) : x.vals[8] = .bool x.time.is := rfl
theorem Sett.lat8 (x : Sett) : x.vals[8]? = some (.bool x.time.is) := rfl
theorem Sett.at9 (x : Sett) (h : 9 < x.vals.length) : x.vals[9] = .int .i64 x.time.n := rfl
theorem Sett.lat9 (x : Sett) : x.vals[9]? = some (.int .i64 x.time.n) := rfl
theorem Sett.sub0_10 (x : Sett) : x.vals.toArray.extract 0 10 = x.vals.toArray := (List.extract_toArray ..).trans (congrArg List.toArray (show _ = x.vals from rfl))
theorem Sett.lsub0_10 (x : Sett) : x.vals.take 10 = x.vals := rfl
theorem Sett.sub0_2 (x : Sett) : x.vals.toArray.extract 0 2 = x.mode.vals.toArray := (List.extract_toArray ..).trans (congrArg List.toArray (show _ = x.mode.vals from rfl))
theorem Sett.lsub0_2 (x : Sett) : x.vals.take 2 = x.mode.vals := rfl
theorem Sett.sub2_2 (x : Sett) : x.vals.toArray.extract 2 4 = x.uid.vals.toArray := (List.extract_toArray ..).trans (congrArg List.toArray (show _ = x.uid.vals from rfl))
theorem Sett.lsub2_2 (x : Sett) : (x.vals.drop 2).take 2 = x.uid.vals := rfl
theorem Sett.sub4_2 (x : Sett) : x.vals.toArray.extract 4 6 = x.gid.vals.toArray := (List.extract_toArray ..).trans (congrArg List.toArray (show _ = x.gid.vals from rfl))
theorem Sett.lsub4_2 (x : Sett) : (x.vals.drop 4).take 2 = x.gid.vals := rfl
theorem Sett.sub6_2 (x : Sett) : x.vals.toArray.extract 6 8 = x.size.vals.toArray := (List.extract_toArray ..).trans (congrArg List.toArray (show _ = x.size.vals from rfl))
theorem Sett.lsub6_2 (x : Sett) : (x.vals.drop 6).take 2 = x.size.vals := rfl
theorem Sett.sub8_2 (x : Sett) : x.vals.toArray.extract 8 10 = x.time.vals.toArray := (List.extract_toArray ..).trans (congrArg List.toArray (show _ = x.time.vals from rfl))
theorem Sett.lsub8_2 (x : Sett) : (x.vals.drop 8).take 2 = x.time.vals := rfl
def Sett.good (x : Sett) : Prop := x.mode.good ∧ x.uid.good ∧ x.gid.good ∧ x.size.good ∧ x.time.good

structure Post where
  is : Bool
  attr : Attr
  deriving DecidableEq
def Post.vals (x : Post) : List Value := [.bool x.is] ++ x.attr.vals
theorem Post.len (x : Post) : x.vals.length = 11 := rfl
theorem Post.one (x : Post) : ∀ v ∈ x.vals, v.oneCell' = true := by
  intro v hv
  unfold Post.vals at hv
  rcases List.mem_append.1 hv with hv | hv
  · simp only [List.mem_cons, List.not_mem_nil, or_false] at hv
    subst hv; rfl
  · exact Attr.one _ v hv
theorem Post.at0 (x : Post) (h : 0 < x.vals.length) : x.vals[0] = .bool x.is := rfl
theorem Post.lat0 (x : Post) : x.vals[0]? = some (.bool x.is) := rfl
theorem Post.at1 (x : Post) (h : 1 < x.vals.length) : x.vals[1] = .int .i64 x.attr.type := rfl
theorem Post.lat1 (x : Post) : x.vals[1]? = some (.int .i64 x.attr.type) := rfl
theorem Post.at2 (x : Post) (h : 2 < x.vals.length) : x.vals[2] = .int .i64 x.attr.mode := rfl
theorem Post.lat2 (x : Post) : x.vals[2]? = some (.int .i64 x.attr.mode) := rfl
theorem Post.at3 (x : Post) (h : 3 < x.vals.length) : x.vals[3] = .int .i64 x.attr.nlink := rfl
theorem Post.lat3 (x : Post) : x.vals[3]? = some (.int .i64 x.attr.nlink) := rfl
theorem Post.at4 (x : Post) (h : 4 < x.vals.length) : x.vals[4] = .int .i64 x.attr.uid := rfl
theorem Post.lat4 (x : Post) : x.vals[4]? = some (.int .i64 x.attr.uid) := rfl
theorem Post.at5 (x : Post) (h : 5 < x.vals.length) : x.vals[5] = .int .i64 x.attr.gid := rfl
theorem Post.lat5 (x : Post) : x.vals[5]? = some (.int .i64 x.attr.gid) := rfl
theorem Post.at6 (x : Post) (h : 6 < x.vals.length) : x.vals[6] = .int .i64 x.attr.size := rfl
theorem Post.lat6 (x : Post) : x.vals[6]? = some (.int .i64 x.attr.size) := rfl
theorem Post.at7 (x : Post) (h : 7 < x.vals.length) : x.vals[7] = .int .i64 x.attr.id := rfl
theorem Post.lat7 (x : Post) : x.vals[7]? = some (.int .i64 x.attr.id) := rfl
theorem Post.at8 (x : Post) (h : 8 < x.vals.length) : x.vals[8] = .int .i64 x.attr.gen := rfl
theorem Post.lat8 (x : Post) : x.vals[8]? = some (.int .i64 x.attr.gen) := rfl
theorem Post.at9 (x : Post) (h : 9 < x.vals.length) : x.vals[9] = .int .i64 x.attr.change := rfl
theorem Post.lat9 (x : Post) : x.vals[9]? = some (.int .i64 x.attr.change) := rfl
theorem Post.at10 (x : Post) (h : 10 < x.vals.length) : x.vals[10] = .int .i64 x.attr.time := rfl
theorem Post.lat10 (x : Post) : x.vals[10]? = some (.int .i64 x.attr.time) := rfl
theorem Post.sub0_11 (x : Post) : x.vals.toArray.extract 0 11 = x.vals.toArray := (List.extract_toArray ..).trans (congrArg List.toArray (show _ = x.vals from rfl))
theorem Post.lsub0_11 (x : Post) : x.vals.take 11 = x.vals := rfl
theorem Post.sub1_10 (x : Post) : x.vals.toArray.extract 1 11 = x.attr.vals.toArray := (List.extract_toArray ..).trans (congrArg List.toArray (show _ = x.attr.vals from rfl))
theorem Post.lsub1_10 (x : Post) : x.vals.tail.take 10 = x.attr.vals := rfl
def Post.good (x : Post) : Prop := x.attr.good

structure Wcc where
  before : Opt
  after : Post
  deriving DecidableEq
def Wcc.vals (x : Wcc) : List Value := x.before.vals ++ x.after.vals
theorem Wcc.len (x : Wcc) : x.vals.length = 13 := rfl
theorem Wcc.one (x : Wcc) : ∀ v ∈ x.vals, v.oneCell' = true := by
  intro v hv
  unfold Wcc.vals at hv
  rcases List.mem_append.1 hv with hv | hv
  · exact Opt.one _ v hv
  · exact Post.one _ v hv
theorem Wcc.at0 (x : Wcc) (h : 0 < x.vals.length) : x.vals[0] = .bool x.before.is := rfl
theorem Wcc.lat0 (x : Wcc) : x.vals[0]? = some (.bool x.before.is) := rfl
theorem Wcc.at1 (x : Wcc) (h : 1 < x.vals.length) : x.vals[1] = .int .i64 x.before.n := rfl
theorem Wcc.lat1 (x : Wcc) : x.vals[1]? = some (.int .i64 x.before.n) := rfl
theorem Wcc.at2 (x : Wcc) (h : 2 < x.vals.length) : x.vals[2] = .bool x.after.is := rfl
theorem Wcc.lat2 (x : Wcc) : x.vals[2]? = some (.bool x.after.is) := rfl
theorem Wcc.at3 (x : Wcc) (h : 3 < x.vals.length) : x.vals[3] = .int .i64 x.after.attr.type := rfl
theorem Wcc.lat3 (x : Wcc) : x.vals[3]? = some (.int .i64 x.after.attr.type) := rfl
theorem Wcc.at4 (x : Wcc) (h : 4 < x.vals.length) : x.vals[4] = .int .i64 x.after.attr.mode := rfl
theorem Wcc.lat4 (x : Wcc) : x.vals[4]? = some (.int .i64 x.after.attr.mode) := rfl
theorem Wcc.at5 (x : Wcc) (h : 5 < x.vals.length) : x.vals[5] = .int .i64 x.after.attr.nlink := rfl
theorem Wcc.lat5 (x : Wcc) : x.vals[5]? = some (.int .i64 x.after.attr.nlink) := rfl
theorem Wcc.at6 (x : Wcc) (h : 6 < x.vals.length) : x.vals[6] = .int .i64 x.after.attr.uid := rfl
theorem Wcc.lat6 (x : Wcc) : x.vals[6]? = some (.int .i64 x.after.attr.uid) := rfl
theorem Wcc.at7 (x : Wcc) (h : 7 < x.vals.length) : x.vals[7] = .int .i64 x.after.attr.gid := rfl
theorem Wcc.lat7 (x : Wcc) : x.vals[7]? = some (.int .i64 x.after.attr.gid) := rfl
theorem Wcc.at8 (x : Wcc) (h : 8 < x.vals.length) : x.vals[8] = .int .i64 x.after.attr.size := rfl
theorem Wcc.lat8 (x : Wcc) : x.vals[8]? = some (.int .i64 x.after.attr.size) := rfl
theorem Wcc.at9 (x : Wcc) (h : 9 < x.vals.length) : x.vals[9] = .int .i64 x.after.attr.id := rfl
theorem Wcc.lat9 (x : Wcc) : x.vals[9]? = some (.int .i64 x.after.attr.id) := rfl
theorem Wcc.at10 (x : Wcc) (h : 10 < x.vals.length) : x.vals[10] = .int .i64 x.after.attr.gen := rfl
theorem Wcc.lat10 (x : Wcc) : x.vals[10]? = some (.int .i64 x.after.attr.gen) := rfl
theorem Wcc.at11 (x : Wcc) (h : 11 < x.vals.length) : x.vals[11] = .int .i64 x.after.attr.change := rfl
theorem Wcc.lat11 (x : Wcc) : x.vals[11]? = some (.int .i64 x.after.attr.change) := rfl
theorem Wcc.at12 (x : Wcc) (h : 12 < x.vals.length) : x.vals[12] = .int .i64 x.after.attr.time := rfl
theorem Wcc.lat12 (x : Wcc) : x.vals[12]? = some (.int .i64 x.after.attr.time) := rfl
theorem Wcc.sub0_13 (x : Wcc) : x.vals.toArray.extract 0 13 = x.vals.toArray := (List.extract_toArray ..).trans (congrArg List.toArray (show _ = x.vals from rfl))
theorem Wcc.lsub0_13 (x : Wcc) : x.vals.take 13 = x.vals := rfl
theorem Wcc.sub0_2 (x : Wcc) : x.vals.toArray.extract 0 2 = x.before.vals.toArray := (List.extract_toArray ..).trans (congrArg List.toArray (show _ = x.before.vals from rfl))
theorem Wcc.lsub0_2 (x : Wcc) : x.vals.take 2 = x.before.vals := rfl
theorem Wcc.sub2_11 (x : Wcc) : x.vals.toArray.extract 2 13 = x.after.vals.toArray := (List.extract_toArray ..).trans (congrArg List.toArray (show _ = x.after.vals from rfl))
theorem Wcc.lsub2_11 (x : Wcc) : (x.vals.drop 2).take 11 = x.after.vals := rfl
theorem Wcc.sub3_10 (x : Wcc) : x.vals.toArray.extract 3 13 = x.after.attr.vals.toArray := (List.extract_toArray ..).trans (congrArg List.toArray (show _ = x.after.attr.vals from rfl))
theorem Wcc.lsub3_10 (x : Wcc) : (x.vals.drop 3).take 10 = x.after.attr.vals := rfl
def Wcc.good (x : Wcc) : Prop := x.before.good ∧ x.after.good

end Go.Proofs.YtfjflkmhhbhceaaGreatDoor


/-
  Layer 1 in plain words: numbers and texts in fields of four bytes, written and read. No condition.
-/
namespace Go.Proofs.YtfjflkmhhbhceaaGreatDoor
open Go.RowKit

/-- a text of these bytes -/
abbrev bs (l : List UInt8) : ByteArray := ⟨l.toArray⟩
theorem bs_list (s : ByteArray) : bs s.data.toList = s := by cases s; simp [bs]
theorem bs_size (l : List UInt8) : (bs l).size = l.length := rfl
theorem bs_inj {a b : List UInt8} (h : bs a = bs b) : a = b := by
  have : (bs a).data.toList = (bs b).data.toList := by rw [h]
  simpa using this
theorem bs_append (a b : List UInt8) : bs a ++ bs b = bs (a ++ b) := ByteArray.mk_append_mk a b
theorem bs_get (s : List UInt8) (i : Nat) (h : i < (bs s).size) : (bs s)[i]'h = s[i]'h := rfl
theorem bs_take (s : List UInt8) (n : Nat) : (bs s).extract 0 n = bs (s.take n) := by
  apply ByteArray.ext
  simp [List.extract]
theorem bs_drop (s : List UInt8) (n : Nat) : (bs s).extract n s.length = bs (s.drop n) := by
  apply ByteArray.ext
  simp [List.extract]
  rw [List.take_of_length_le (by simp)]
theorem ofNat_mod (q : Nat) : UInt8.ofNat (q % 256) = UInt8.ofNat q := by apply UInt8.toNat_inj.1; simp
def u8 (b : UInt8) : Value := .int .u8 b.toNat
theorem u8_one (l : List UInt8) : ∀ u ∈ l.map u8, u.oneCell' = true := by
  intro u hu; obtain ⟨b, _, rfl⟩ := List.mem_map.1 hu; rfl
theorem u8_wrap (n : Nat) : IntKind.u8.wrap (n : Int) = ((UInt8.ofNat n).toNat : Int) := by
  rw [IntKind.wrap_u8]; simp
theorem shr_byte (n m : Nat) (hm : 1 ≤ m) (hm8 : m ≤ 8) : Op.shift .shr .i64 (n : Int) .i64 (IntKind.i64.wrap (8 * ((m : Int) - 1))) = pure (.int .i64 ((n / 256 ^ (m - 1) : Nat) : Int)) := by
  rw [IntWalk.i64_in _ (by omega), shift_shr .i64 .i64 _ _ (by omega) (by show 8 * ((m : Int) - 1) ≤ 64; omega)]
  have e : (8 * ((m : Int) - 1)).toNat = 8 * (m - 1) := by omega
  have e2 : ((2 : Int) ^ (8 * (m - 1))) = ((256 ^ (m - 1) : Nat) : Int) := by
    rw [show (256 : Nat) = 2 ^ 8 by rfl, ← Nat.pow_mul, Int.natCast_pow]; rfl
  rw [e, e2]
  rfl

/-- a number's bytes, the highest first -/
def num (n : Nat) : Nat → List UInt8
  | 0 => []
  | k + 1 => num (n / 256) k ++ [UInt8.ofNat n]
theorem num_len (n k : Nat) : (num n k).length = k := by
  induction k generalizing n with
  | zero => rfl
  | succ k ih => simp [num, ih]
/-- the same, from the highest down -/
theorem num_cons (n k : Nat) : num n (k + 1) = UInt8.ofNat (n / 256 ^ k) :: num n k := by
  induction k generalizing n with
  | zero => simp [num]
  | succ k ih =>
    rw [num, ih (n / 256)]
    simp only [List.cons_append]
    rw [Nat.div_div_eq_div_mul, ← Nat.pow_succ']
    rfl
def padn (n : Nat) : Nat := (4 - n % 4) % 4
theorem padn_lt (n : Nat) : padn n < 4 := Nat.mod_lt _ (by omega)
def filled (l : List UInt8) : List UInt8 := l ++ List.replicate (padn l.length) 0
theorem filled_len (l : List UInt8) : (filled l).length = l.length + padn l.length := by simp [filled]
def opq (l : List UInt8) : List UInt8 := num l.length 4 ++ filled l
def truth (b : Bool) : List UInt8 := num (if b then 1 else 0) 4
def optB (b : Bool) (n : Int) : List UInt8 := truth b ++ (if b then num n.toNat 8 else [])

/-- a number out of its bytes -/
def beVal : List UInt8 → Nat
  | [] => 0
  | b :: l => b.toNat * 256 ^ l.length + beVal l
theorem beVal_snoc (l : List UInt8) (b : UInt8) : beVal (l ++ [b]) = beVal l * 256 + b.toNat := by
  induction l with
  | nil => simp [beVal]
  | cons c l ih =>
    simp only [List.cons_append, beVal, ih, List.length_append, List.length_cons, List.length_nil, Nat.zero_add, Nat.pow_succ, Nat.add_mul]
    rw [Nat.mul_assoc]; omega
theorem beVal_lt (l : List UInt8) : beVal l < 256 ^ l.length := by
  induction l with
  | nil => simp [beVal]
  | cons b l ih =>
    simp only [beVal, List.length_cons, Nat.pow_succ]
    have : b.toNat ≤ 255 := by have := b.toNat_lt; omega
    have h2 := Nat.mul_le_mul_right (256 ^ l.length) this
    omega
theorem beVal_num (n k : Nat) (h : n < 256 ^ k) : beVal (num n k) = n := by
  induction k generalizing n with
  | zero => simp [num, beVal] at *; omega
  | succ k ih =>
    rw [num, beVal_snoc, ih (n / 256) (by rw [Nat.pow_succ] at h; omega)]
    simp; omega
theorem num_beVal (l : List UInt8) : num (beVal l) l.length = l := by
  have key : ∀ k (l : List UInt8), l.length = k → num (beVal l) k = l := by
    intro k
    induction k with
    | zero => intro l h; rw [List.eq_nil_of_length_eq_zero h]; rfl
    | succ k ih =>
      intro l h
      rw [← List.dropLast_concat_getLast (l := l) (by intro e; rw [e] at h; cases h)]
      generalize hb : l.getLast _ = b
      have hl : l.dropLast.length = k := by simp [h]
      have hb' : b.toNat < 256 := b.toNat_lt
      rw [beVal_snoc, num, show (beVal l.dropLast * 256 + b.toNat) / 256 = beVal l.dropLast by omega, ih _ hl]
      congr 2
      apply UInt8.toNat_inj.1
      simp
  exact key _ l rfl

/-- a reader: what is left, and the first error -/
structure Rs where
  s : List UInt8
  e : Int
  deriving DecidableEq
def Rs.fail (e : Int) : Rs := ⟨[], e⟩
def rNum (k : Nat) (r : Rs) : Nat × Rs :=
  if r.e ≠ 0 then (0, r) else if r.s.length < k then (0, Rs.fail 10) else (beVal (r.s.take k), ⟨r.s.drop k, 0⟩)
def rU32 (r : Rs) : Nat × Rs := rNum 4 r
def rU64 (r : Rs) : Nat × Rs := if 9223372036854775808 ≤ (rNum 8 r).1 then (0, Rs.fail 3) else rNum 8 r
def rBool (r : Rs) : Bool × Rs := if 1 < (rU32 r).1 then (false, Rs.fail 13) else ((rU32 r).1 == 1, (rU32 r).2)
def rOpt (r : Rs) : (Bool × Nat) × Rs :=
  if (rBool r).1 then (if (rU64 (rBool r).2).2.e ≠ 0 then ((false, 0), (rU64 (rBool r).2).2) else ((true, (rU64 (rBool r).2).1), (rU64 (rBool r).2).2)) else ((false, 0), (rBool r).2)
/-- a text of n bytes, and what fills it up -/
def rPadded (n : Nat) (r : Rs) : List UInt8 × Rs :=
  if r.e ≠ 0 then ([], r)
  else if r.s.length < n then ([], Rs.fail 10)
  else if (r.s.drop n).length < padn n then ([], Rs.fail 10)
  else if ((r.s.drop n).take (padn n)).all (· == 0) then (r.s.take n, ⟨(r.s.drop n).drop (padn n), 0⟩)
  else ([], Rs.fail 11)
def rFixed (n : Int) (r : Rs) : List UInt8 × Rs := if r.e ≠ 0 then ([], r) else if n < 0 then ([], Rs.fail 2) else rPadded n.toNat r
def rOpaque (most : Int) (r : Rs) : List UInt8 × Rs :=
  if (rU32 r).2.e ≠ 0 then ([], (rU32 r).2) else if most < ((rU32 r).1 : Int) then ([], Rs.fail 4) else rPadded (rU32 r).1 (rU32 r).2
def rLeft (r : Rs) : Nat := if r.e ≠ 0 then 0 else r.s.length
def rDone (r : Rs) : Int := if r.e ≠ 0 then r.e else if 0 < r.s.length then 12 else 0

end Go.Proofs.YtfjflkmhhbhceaaGreatDoor


/-
  The data of the program's package api, as plain structures, and the cells that each takes (written by wip/tools/structs.py). No condition.
-/
namespace Go.Proofs.YtfjflkmhhbhceaaGreatDoor
open Go.RowKit

structure Lim where
  space : Int
  quota : Int
  nodes : Int
  deriving DecidableEq
def Lim.vals (x : Lim) : List Value := [.int .i64 x.space, .int .i64 x.quota, .int .i64 x.nodes]
theorem Lim.len (x : Lim) : x.vals.length = 3 := rfl
theorem Lim.one (x : Lim) : ∀ v ∈ x.vals, v.oneCell' = true := by
  intro v hv
  unfold Lim.vals at hv
  simp only [List.mem_cons, List.not_mem_nil, or_false] at hv
  rcases hv with rfl | rfl | rfl <;> rfl
def Lim.good (x : Lim) : Prop := (Lit.int .i64 x.space).wf = true ∧ (Lit.int .i64 x.quota).wf = true ∧ (Lit.int .i64 x.nodes).wf = true

structure Nd where
  attr : Attr
  data : ByteArray
  verf : Int
  parent : Int
  last : Int
  ea : Option Addr
  en : Nat
  ec : Nat
def Nd.vals (x : Nd) : List Value := x.attr.vals ++ [.string x.data, .int .i64 x.verf, .int .i64 x.parent, .int .i64 x.last, .slice x.ea x.en x.ec]
theorem Nd.len (x : Nd) : x.vals.length = 15 := rfl
theorem Nd.one (x : Nd) : ∀ v ∈ x.vals, v.oneCell' = true := by
  intro v hv
  unfold Nd.vals at hv
  rcases List.mem_append.1 hv with hv | hv
  · exact Attr.one _ v hv
  · simp only [List.mem_cons, List.not_mem_nil, or_false] at hv
    rcases hv with rfl | rfl | rfl | rfl | rfl <;> rfl
def Nd.good (x : Nd) : Prop := x.attr.good ∧ x.data.size ≤ maxLen ∧ (Lit.int .i64 x.verf).wf = true ∧ (Lit.int .i64 x.parent).wf = true ∧ (Lit.int .i64 x.last).wf = true ∧ x.en ≤ maxLen


/-- a tree with its nodes' slice -/
structure Tr where
  lim : Lim
  now : Int
  gens : Int
  na : Option Addr
  nc : Nat
  ns : List Nd
def Tr.vals (t : Tr) : List Value := t.lim.vals ++ [.int .i64 t.now, .int .i64 t.gens, .slice t.na t.ns.length t.nc]
def Tr.val (t : Tr) : Value := .agg t.vals.toArray
theorem Tr.len (t : Tr) : t.vals.length = 6 := rfl

end Go.Proofs.YtfjflkmhhbhceaaGreatDoor


/-
  Plain laws of lists: a search up to a number of elements. No condition.
-/
namespace Go.Proofs.YtfjflkmhhbhceaaGreatDoor
variable {α : Type}

theorem take_next (l : List α) (k : Nat) (hk : k < l.length) : l.take (k + 1) = l.take k ++ [l[k]] := List.take_succ_eq_append_getElem hk
/-- among the first N some one is so, or there are more than N -/
def over (p : α → Bool) (N : Nat) (l : List α) : Bool := (l.take N).any p || decide (N < l.length)
theorem over_yes {p : α → Bool} {N : Nat} {l : List α} {k : Nat} (hk : k < l.length) (h7 : k < N) (h : p l[k] = true) : over p N l = true := by
  have h1 : l[k] ∈ l.take N := by
    have : (l.take N)[k]? = some l[k] := by rw [List.getElem?_take, if_pos h7]; exact List.getElem?_eq_getElem hk
    exact List.mem_of_getElem? this
  unfold over; rw [List.any_eq_true.2 ⟨_, h1, h⟩]; rfl
theorem over_step {p : α → Bool} {l : List α} {k : Nat} (hk : k < l.length) (hn : (l.take k).any p = false) (h : p l[k] = false) : (l.take (k + 1)).any p = false := by
  rw [take_next _ _ hk, List.any_append, hn]; simp [h]
theorem over_end {p : α → Bool} {N : Nat} {l : List α} {k : Nat} (hk : k ≤ l.length) (hkN : k ≤ N) (hn : (l.take k).any p = false) (he : ¬ (k < l.length ∧ k < N)) : over p N l = decide ((N : Int) < (l.length : Int)) := by
  unfold over
  have : (l.take N).any p = false := by
    rcases Nat.lt_or_ge k N with h | h
    · rw [List.take_of_length_le (by omega)]
      rw [List.take_of_length_le (by omega)] at hn
      exact hn
    · obtain rfl : k = N := by omega
      exact hn
  rw [this, Bool.false_or]
  exact decide_eq_decide.2 (by omega)
theorem over_no {p : α → Bool} {N : Nat} {l : List α} (h : over p N l = false) : l.length ≤ N ∧ ∀ x ∈ l, p x = false := by
  unfold over at h
  rw [Bool.or_eq_false_iff] at h
  obtain ⟨h1, h2⟩ := h
  have hl : l.length ≤ N := by simpa using h2
  refine ⟨hl, fun t ht => ?_⟩
  rw [List.take_of_length_le hl] at h1
  simpa using List.any_eq_false.1 h1 t ht
end Go.Proofs.YtfjflkmhhbhceaaGreatDoor


/-
  Operations under other names: a region that draws its order (go_region_held3) then runs them in their place, not first. No condition.
-/
namespace Go.Proofs.YtfjflkmhhbhceaaGreatDoor
def laterLd (T : TypeId) (x : Operand) : Op := Op.load T x
theorem laterLd_eq (T : TypeId) (x : Operand) : Op.load T x = laterLd T x := rfl
def laterCv (S T : TypeId) (x : Operand) : Op := Op.convert S T x
theorem laterCv_eq (S T : TypeId) (x : Operand) : Op.convert S T x = laterCv S T x := rfl
end Go.Proofs.YtfjflkmhhbhceaaGreatDoor
