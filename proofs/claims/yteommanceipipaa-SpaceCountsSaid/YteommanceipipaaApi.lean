/-
  The data of the program's package api, as plain structures, and the cells that each takes (written by wip/tools/structs.py). No condition.
-/
import Derived.Test.YteommanceipipaaMem
namespace Go.Proofs.Yteommanceipipaa
open Go.RowKit

structure Attr where
  type : Int
  mode : Int
  nlink : Int
  uid : Int
  gid : Int
  size : Int
  id : Int
  gen : Int
  change : Int
  time : Int
  deriving DecidableEq
def Attr.vals (x : Attr) : List Value := [.int .i64 x.type, .int .i64 x.mode, .int .i64 x.nlink, .int .i64 x.uid, .int .i64 x.gid, .int .i64 x.size, .int .i64 x.id, .int .i64 x.gen, .int .i64 x.change, .int .i64 x.time]
theorem Attr.len (x : Attr) : x.vals.length = 10 := rfl
theorem Attr.one (x : Attr) : ∀ v ∈ x.vals, v.oneCell' = true := by
  intro v hv
  unfold Attr.vals at hv
  simp only [List.mem_cons, List.not_mem_nil, or_false] at hv
  rcases hv with rfl | rfl | rfl | rfl | rfl | rfl | rfl | rfl | rfl | rfl <;> rfl
def Attr.good (x : Attr) : Prop := (Lit.int .i64 x.type).wf = true ∧ (Lit.int .i64 x.mode).wf = true ∧ (Lit.int .i64 x.nlink).wf = true ∧ (Lit.int .i64 x.uid).wf = true ∧ (Lit.int .i64 x.gid).wf = true ∧ (Lit.int .i64 x.size).wf = true ∧ (Lit.int .i64 x.id).wf = true ∧ (Lit.int .i64 x.gen).wf = true ∧ (Lit.int .i64 x.change).wf = true ∧ (Lit.int .i64 x.time).wf = true

structure Lim where
  space : Int
  quota : Int
  nodes : Int
  deriving DecidableEq
def Lim.vals (x : Lim) : List Value := [.int .i64 x.space, .int .i64 x.quota, .int .i64 x.nodes]
theorem Lim.len (x : Lim) : x.vals.length = 3 := rfl
theorem Lim.one (x : Lim) : ∀ v ∈ x.vals, v.oneCell' = true := by
  intro v hv
  unfold Lim.vals at hv
  simp only [List.mem_cons, List.not_mem_nil, or_false] at hv
  rcases hv with rfl | rfl | rfl <;> rfl
def Lim.good (x : Lim) : Prop := (Lit.int .i64 x.space).wf = true ∧ (Lit.int .i64 x.quota).wf = true ∧ (Lit.int .i64 x.nodes).wf = true

structure Nd where
  attr : Attr
  data : ByteArray
  verf : Int
  parent : Int
  last : Int
  ea : Option Addr
  en : Nat
  ec : Nat
def Nd.vals (x : Nd) : List Value := x.attr.vals ++ [.string x.data, .int .i64 x.verf, .int .i64 x.parent, .int .i64 x.last, .slice x.ea x.en x.ec]
theorem Nd.len (x : Nd) : x.vals.length = 15 := rfl
theorem Nd.one (x : Nd) : ∀ v ∈ x.vals, v.oneCell' = true := by
  intro v hv
  unfold Nd.vals at hv
  rcases List.mem_append.1 hv with hv | hv
  · exact Attr.one _ v hv
  · simp only [List.mem_cons, List.not_mem_nil, or_false] at hv
    rcases hv with rfl | rfl | rfl | rfl | rfl <;> rfl
def Nd.good (x : Nd) : Prop := x.attr.good ∧ x.data.size ≤ maxLen ∧ (Lit.int .i64 x.verf).wf = true ∧ (Lit.int .i64 x.parent).wf = true ∧ (Lit.int .i64 x.last).wf = true ∧ x.en ≤ maxLen


/-- a tree with its nodes' slice -/
structure Tr where
  lim : Lim
  now : Int
  gens : Int
  na : Option Addr
  nc : Nat
  ns : List Nd
def Tr.vals (t : Tr) : List Value := t.lim.vals ++ [.int .i64 t.now, .int .i64 t.gens, .slice t.na t.ns.length t.nc]
def Tr.val (t : Tr) : Value := .agg t.vals.toArray
theorem Tr.len (t : Tr) : t.vals.length = 6 := rfl

end Go.Proofs.Yteommanceipipaa
