/-
  The data of the program's packages api and attr, as plain structures, and the cells that each takes (written by wip/tools/structs.py). No condition.
-/
import Derived.Test.YtbpfniocaibfcaaMem
namespace Go.Proofs.Ytbpfniocaibfcaa
open Go.RowKit

structure Attr where
  type : Int
  mode : Int
  nlink : Int
  uid : Int
  gid : Int
  size : Int
  id : Int
  gen : Int
  change : Int
  time : Int
  deriving DecidableEq
def Attr.vals (x : Attr) : List Value := [.int .i64 x.type, .int .i64 x.mode, .int .i64 x.nlink, .int .i64 x.uid, .int .i64 x.gid, .int .i64 x.size, .int .i64 x.id, .int .i64 x.gen, .int .i64 x.change, .int .i64 x.time]
theorem Attr.len (x : Attr) : x.vals.length = 10 := rfl
theorem Attr.one (x : Attr) : ∀ v ∈ x.vals, v.oneCell' = true := by
  intro v hv
  unfold Attr.vals at hv
  simp only [List.mem_cons, List.not_mem_nil, or_false] at hv
  rcases hv with rfl | rfl | rfl | rfl | rfl | rfl | rfl | rfl | rfl | rfl <;> rfl
def Attr.good (x : Attr) : Prop := (Lit.int .i64 x.type).wf = true ∧ (Lit.int .i64 x.mode).wf = true ∧ (Lit.int .i64 x.nlink).wf = true ∧ (Lit.int .i64 x.uid).wf = true ∧ (Lit.int .i64 x.gid).wf = true ∧ (Lit.int .i64 x.size).wf = true ∧ (Lit.int .i64 x.id).wf = true ∧ (Lit.int .i64 x.gen).wf = true ∧ (Lit.int .i64 x.change).wf = true ∧ (Lit.int .i64 x.time).wf = true

structure Opt where
  is : Bool
  n : Int
  deriving DecidableEq
def Opt.vals (x : Opt) : List Value := [.bool x.is, .int .i64 x.n]
theorem Opt.len (x : Opt) : x.vals.length = 2 := rfl
theorem Opt.one (x : Opt) : ∀ v ∈ x.vals, v.oneCell' = true := by
  intro v hv
  unfold Opt.vals at hv
  simp only [List.mem_cons, List.not_mem_nil, or_false] at hv
  rcases hv with rfl | rfl <;> rfl
def Opt.good (x : Opt) : Prop := (Lit.int .i64 x.n).wf = true

structure Sett where
  mode : Opt
  uid : Opt
  gid : Opt
  size : Opt
  time : Opt
  deriving DecidableEq
def Sett.vals (x : Sett) : List Value := x.mode.vals ++ (x.uid.vals ++ (x.gid.vals ++ (x.size.vals ++ x.time.vals)))
theorem Sett.len (x : Sett) : x.vals.length = 10 := rfl
theorem Sett.one (x : Sett) : ∀ v ∈ x.vals, v.oneCell' = true := by
  intro v hv
  unfold Sett.vals at hv
  rcases List.mem_append.1 hv with hv | hv
  · exact Opt.one _ v hv
  · rcases List.mem_append.1 hv with hv | hv
    · exact Opt.one _ v hv
    · rcases List.mem_append.1 hv with hv | hv
      · exact Opt.one _ v hv
      · rcases List.mem_append.1 hv with hv | hv
        · exact Opt.one _ v hv
        · exact Opt.one _ v hv
def Sett.good (x : Sett) : Prop := x.mode.good ∧ x.uid.good ∧ x.gid.good ∧ x.size.good ∧ x.time.good

structure Post where
  is : Bool
  attr : Attr
  deriving DecidableEq
def Post.vals (x : Post) : List Value := [.bool x.is] ++ x.attr.vals
theorem Post.len (x : Post) : x.vals.length = 11 := rfl
theorem Post.one (x : Post) : ∀ v ∈ x.vals, v.oneCell' = true := by
  intro v hv
  unfold Post.vals at hv
  rcases List.mem_append.1 hv with hv | hv
  · simp only [List.mem_cons, List.not_mem_nil, or_false] at hv
    subst hv; rfl
  · exact Attr.one _ v hv
def Post.good (x : Post) : Prop := x.attr.good

structure Wcc where
  before : Opt
  after : Post
  deriving DecidableEq
def Wcc.vals (x : Wcc) : List Value := x.before.vals ++ x.after.vals
theorem Wcc.len (x : Wcc) : x.vals.length = 13 := rfl
theorem Wcc.one (x : Wcc) : ∀ v ∈ x.vals, v.oneCell' = true := by
  intro v hv
  unfold Wcc.vals at hv
  rcases List.mem_append.1 hv with hv | hv
  · exact Opt.one _ v hv
  · exact Post.one _ v hv
def Wcc.good (x : Wcc) : Prop := x.before.good ∧ x.after.good

end Go.Proofs.Ytbpfniocaibfcaa
