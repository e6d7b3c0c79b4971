/-
  The data of the program's packages api and attr, as plain structures, and the cells that each takes (written by wip/tools/structs.py). No condition.
-/
import Derived.Test.YtapcjojlkeaadaaGreatDoorP01
namespace Go.Proofs.YtapcjojlkeaadaaGreatDoor
open Go.RowKit

structure Attr where
  type : Int
  mode : Int
  nlink : Int
  uid : Int
  gid : Int
  size : Int
  id : Int
  gen : Int
  change : Int
  time : Int
  deriving DecidableEq
def Attr.vals (x : Attr) : List Value := [.int .i64 x.type, .int .i64 x.mode, .int .i64 x.nlink, .int .i64 x.uid, .int .i64 x.gid, .int .i64 x.size, .int .i64 x.id, .int .i64 x.gen, .int .i64 x.change, .int .i64 x.time]
theorem Attr.len (x : Attr) : x.vals.length = 10 := rfl
theorem Attr.one (x : Attr) : ∀ v ∈ x.vals, v.oneCell' = true := by
  intro v hv
  unfold Attr.vals at hv
  simp only [List.mem_cons, List.not_mem_nil, or_false] at hv
  rcases hv with rfl | rfl | rfl | rfl | rfl | rfl | rfl | rfl | rfl | rfl <;> rfl
theorem Attr.at0 (x : Attr) (h : 0 < x.vals.length) : x.vals[0] = .int .i64 x.type := rfl
theorem Attr.lat0 (x : Attr) : x.vals[0]? = some (.int .i64 x.type) := rfl
theorem Attr.at1 (x : Attr) (h : 1 < x.vals.length) : x.vals[1] = .int .i64 x.mode := rfl
theorem Attr.lat1 (x : Attr) : x.vals[1]? = some (.int .i64 x.mode) := rfl
theorem Attr.at2 (x : Attr) (h : 2 < x.vals.length) : x.vals[2] = .int .i64 x.nlink := rfl
theorem Attr.lat2 (x : Attr) : x.vals[2]? = some (.int .i64 x.nlink) := rfl
theorem Attr.at3 (x : Attr) (h : 3 < x.vals.length) : x.vals[3] = .int .i64 x.uid := rfl
theorem Attr.lat3 (x : Attr) : x.vals[3]? = some (.int .i64 x.uid) := rfl
theorem Attr.at4 (x : Attr) (h : 4 < x.vals.length) : x.vals[4] = .int .i64 x.gid := rfl
theorem Attr.lat4 (x : Attr) : x.vals[4]? = some (.int .i64 x.gid) := rfl
theorem Attr.at5 (x : Attr) (h : 5 < x.vals.length) : x.vals[5] = .int .i64 x.size := rfl
theorem Attr.lat5 (x : Attr) : x.vals[5]? = some (.int .i64 x.size) := rfl
theorem Attr.at6 (x : Attr) (h : 6 < x.vals.length) : x.vals[6] = .int .i64 x.id := rfl
theorem Attr.lat6 (x : Attr) : x.vals[6]? = some (.int .i64 x.id) := rfl
theorem Attr.at7 (x : Attr) (h : 7 < x.vals.length) : x.vals[7] = .int .i64 x.gen := rfl
theorem Attr.lat7 (x : Attr) : x.vals[7]? = some (.int .i64 x.gen) := rfl
theorem Attr.at8 (x : Attr) (h : 8 < x.vals.length) : x.vals[8] = .int .i64 x.change := rfl
theorem Attr.lat8 (x : Attr) : x.vals[8]? = some (.int .i64 x.change) := rfl
theorem Attr.at9 (x : Attr) (h : 9 < x.vals.length) : x.vals[9] = .int .i64 x.time := rfl
theorem Attr.lat9 (x : Attr) : x.vals[9]? = some (.int .i64 x.time) := rfl
theorem Attr.sub0_10 (x : Attr) : x.vals.toArray.extract 0 10 = x.vals.toArray := (List.extract_toArray ..).trans (congrArg List.toArray (show _ = x.vals from rfl))
theorem Attr.lsub0_10 (x : Attr) : x.vals.take 10 = x.vals := rfl
def Attr.good (x : Attr) : Prop := (Lit.int .i64 x.type).wf = true ∧ (Lit.int .i64 x.mode).wf = true ∧ (Lit.int .i64 x.nlink).wf = true ∧ (Lit.int .i64 x.uid).wf = true ∧ (Lit.int .i64 x.gid).wf = true ∧ (Lit.int .i64 x.size).wf = true ∧ (Lit.int .i64 x.id).wf = true ∧ (Lit.int .i64 x.gen).wf = true ∧ (Lit.int .i64 x.change).wf = true ∧ (Lit.int .i64 x.time).wf = true

structure Opt where
  is : Bool
  n : Int
  deriving DecidableEq
def Opt.vals (x : Opt) : List Value := [.bool x.is, .int .i64 x.n]
theorem Opt.len (x : Opt) : x.vals.length = 2 := rfl
theorem Opt.one (x : Opt) : ∀ v ∈ x.vals, v.oneCell' = true := by
  intro v hv
  unfold Opt.vals at hv
  simp only [List.mem_cons, List.not_mem_nil, or_false] at hv
  rcases hv with rfl | rfl <;> rfl
theorem Opt.at0 (x : Opt) (h : 0 < x.vals.length) : x.vals[0] = .bool x.is := rfl
theorem Opt.lat0 (x : Opt) : x.vals[0]? = some (.bool x.is) := rfl
theorem Opt.at1 (x : Opt) (h : 1 < x.vals.length) : x.vals[1] = .int .i64 x.n := rfl
theorem Opt.lat1 (x : Opt) : x.vals[1]? = some (.int .i64 x.n) := rfl
theorem Opt.sub0_2 (x : Opt) : x.vals.toArray.extract 0 2 = x.vals.toArray := (List.extract_toArray ..).trans (congrArg List.toArray (show _ = x.vals from rfl))
theorem Opt.lsub0_2 (x : Opt) : x.vals.take 2 = x.vals := rfl
def Opt.good (x : Opt) : Prop := (Lit.int .i64 x.n).wf = true

structure Sett where
  mode : Opt
  uid : Opt
  gid : Opt
  size : Opt
  time : Opt
  deriving DecidableEq
def Sett.vals (x : Sett) : List Value := x.mode.vals ++ (x.uid.vals ++ (x.gid.vals ++ (x.size.vals ++ x.time.vals)))
theorem Sett.len (x : Sett) : x.vals.length = 10 := rfl
theorem Sett.one (x : Sett) : ∀ v ∈ x.vals, v.oneCell' = true := by
  intro v hv
  unfold Sett.vals at hv
  rcases List.mem_append.1 hv with hv | hv
  · exact Opt.one _ v hv
  · rcases List.mem_append.1 hv with hv | hv
    · exact Opt.one _ v hv
    · rcases List.mem_append.1 hv with hv | hv
      · exact Opt.one _ v hv
      · rcases List.mem_append.1 hv with hv | hv
        · exact Opt.one _ v hv
        · exact Opt.one _ v hv
theorem Sett.at0 (x : Sett) (h : 0 < x.vals.length) : x.vals[0] = .bool x.mode.is := rfl
theorem Sett.lat0 (x : Sett) : x.vals[0]? = some (.bool x.mode.is) := rfl
theorem Sett.at1 (x : Sett) (h : 1 < x.vals.length) : x.vals[1] = .int .i64 x.mode.n := rfl
theorem Sett.lat1 (x : Sett) : x.vals[1]? = some (.int .i64 x.mode.n) := rfl
theorem Sett.at2 (x : Sett) (h : 2 < x.vals.length) : x.vals[2] = .bool x.uid.is := rfl
theorem Sett.lat2 (x : Sett) : x.vals[2]? = some (.bool x.uid.is) := rfl
theorem Sett.at3 (x : Sett) (h : 3 < x.vals.length) : x.vals[3] = .int .i64 x.uid.n := rfl
theorem Sett.lat3 (x : Sett) : x.vals[3]? = some (.int .i64 x.uid.n) := rfl
theorem Sett.at4 (x : Sett) (h : 4 < x.vals.length) : x.vals[4] = .bool x.gid.is := rfl
theorem Sett.lat4 (x : Sett) : x.vals[4]? = some (.bool x.gid.is) := rfl
theorem Sett.at5 (x : Sett) (h : 5 < x.vals.length) : x.vals[5] = .int .i64 x.gid.n := rfl
theorem Sett.lat5 (x : Sett) : x.vals[5]? = some (.int .i64 x.gid.n) := rfl
theorem Sett.at6 (x : Sett) (h : 6 < x.vals.length) : x.vals[6] = .bool x.size.is := rfl
theorem Sett.lat6 (x : Sett) : x.vals[6]? = some (.bool x.size.is) := rfl
theorem Sett.at7 (x : Sett) (h : 7 < x.vals.length) : x.vals[7] = .int .i64 x.size.n := rfl
theorem Sett.lat7 (x : Sett) : x.vals[7]? = some (.int .i64 x.size.n) := rfl
theorem Sett.at8 (x : Sett) (h : 8 < x.vals.length) : x.vals[8] = .bool x.time.is := rfl
theorem Sett.lat8 (x : Sett) : x.vals[8]? = some (.bool x.time.is) := rfl
theorem Sett.at9 (x : Sett) (h : 9 < x.vals.length) : x.vals[9] = .int .i64 x.time.n := rfl
theorem Sett.lat9 (x : Sett) : x.vals[9]? = some (.int .i64 x.time.n) := rfl
theorem Sett.sub0_10 (x : Sett) : x.vals.toArray.extract 0 10 = x.vals.toArray := (List.extract_toArray ..).trans (congrArg List.toArray (show _ = x.vals from rfl))
theorem Sett.lsub0_10 (x : Sett) : x.vals.take 10 = x.vals := rfl
theorem Sett.sub0_2 (x : Sett) : x.vals.toArray.extract 0 2 = x.mode.vals.toArray := (List.extract_toArray ..).trans (congrArg List.toArray (show _ = x.mode.vals from rfl))
theorem Sett.lsub0_2 (x : Sett) : x.vals.take 2 = x.mode.vals := rfl
theorem Sett.sub2_2 (x : Sett) : x.vals.toArray.extract 2 4 = x.uid.vals.toArray := (List.extract_toArray ..).trans (congrArg List.toArray (show _ = x.uid.vals from rfl))
theorem Sett.lsub2_2 (x : Sett) : (x.vals.drop 2).take 2 = x.uid.vals := rfl
theorem Sett.sub4_2 (x : Sett) : x.vals.toArray.extract 4 6 = x.gid.vals.toArray := (List.extract_toArray ..).trans (congrArg List.toArray (show _ = x.gid.vals from rfl))
theorem Sett.lsub4_2 (x : Sett) : (x.vals.drop 4).take 2 = x.gid.vals := rfl
theorem Sett.sub6_2 (x : Sett) : x.vals.toArray.extract 6 8 = x.size.vals.toArray := (List.extract_toArray ..).trans (congrArg List.toArray (show _ = x.size.vals from rfl))
theorem Sett.lsub6_2 (x : Sett) : (x.vals.drop 6).take 2 = x.size.vals := rfl
theorem Sett.sub8_2 (x : Sett) : x.vals.toArray.extract 8 10 = x.time.vals.toArray := (List.extract_toArray ..).trans (congrArg List.toArray (show _ = x.time.vals from rfl))
theorem Sett.lsub8_2 (x : Sett) : (x.vals.drop 8).take 2 = x.time.vals := rfl
def Sett.good (x : Sett) : Prop := x.mode.good ∧ x.uid.good ∧ x.gid.good ∧ x.size.good ∧ x.time.good

structure Post where
  is : Bool
  attr : Attr
  deriving DecidableEq
def Post.vals (x : Post) : List Value := [.bool x.is] ++ x.attr.vals
theorem Post.len (x : Post) : x.vals.length = 11 := rfl
theorem Post.one (x : Post) : ∀ v ∈ x.vals, v.oneCell' = true := by
  intro v hv
  unfold Post.vals at hv
  rcases List.mem_append.1 hv with hv | hv
  · simp only [List.mem_cons, List.not_mem_nil, or_false] at hv
    subst hv; rfl
  · exact Attr.one _ v hv
theorem Post.at0 (x : Post) (h : 0 < x.vals.length) : x.vals[0] = .bool x.is := rfl
theorem Post.lat0 (x : Post) : x.vals[0]? = some (.bool x.is) := rfl
theorem Post.at1 (x : Post) (h : 1 < x.vals.length) : x.vals[1] = .int .i64 x.attr.type := rfl
theorem Post.lat1 (x : Post) : x.vals[1]? = some (.int .i64 x.attr.type) := rfl
theorem Post.at2 (x : Post) (h : 2 < x.vals.length) : x.vals[2] = .int .i64 x.attr.mode := rfl
theorem Post.lat2 (x : Post) : x.vals[2]? = some (.int .i64 x.attr.mode) := rfl
theorem Post.at3 (x : Post) (h : 3 < x.vals.length) : x.vals[3] = .int .i64 x.attr.nlink := rfl
theorem Post.lat3 (x : Post) : x.vals[3]? = some (.int .i64 x.attr.nlink) := rfl
theorem Post.at4 (x : Post) (h : 4 < x.vals.length) : x.vals[4] = .int .i64 x.attr.uid := rfl
theorem Post.lat4 (x : Post) : x.vals[4]? = some (.int .i64 x.attr.uid) := rfl
theorem Post.at5 (x : Post) (h : 5 < x.vals.length) : x.vals[5] = .int .i64 x.attr.gid := rfl
theorem Post.lat5 (x : Post) : x.vals[5]? = some (.int .i64 x.attr.gid) := rfl
theorem Post.at6 (x : Post) (h : 6 < x.vals.length) : x.vals[6] = .int .i64 x.attr.size := rfl
theorem Post.lat6 (x : Post) : x.vals[6]? = some (.int .i64 x.attr.size) := rfl
theorem Post.at7 (x : Post) (h : 7 < x.vals.length) : x.vals[7] = .int .i64 x.attr.id := rfl
theorem Post.lat7 (x : Post) : x.vals[7]? = some (.int .i64 x.attr.id) := rfl
theorem Post.at8 (x : Post) (h : 8 < x.vals.length) : x.vals[8] = .int .i64 x.attr.gen := rfl
theorem Post.lat8 (x : Post) : x.vals[8]? = some (.int .i64 x.attr.gen) := rfl
theorem Post.at9 (x : Post) (h : 9 < x.vals.length) : x.vals[9] = .int .i64 x.attr.change := rfl
theorem Post.lat9 (x : Post) : x.vals[9]? = some (.int .i64 x.attr.change) := rfl
theorem Post.at10 (x : Post) (h : 10 < x.vals.length) : x.vals[10] = .int .i64 x.attr.time := rfl
theorem Post.lat10 (x : Post) : x.vals[10]? = some (.int .i64 x.attr.time) := rfl
theorem Post.sub0_11 (x : Post) : x.vals.toArray.extract 0 11 = x.vals.toArray := (List.extract_toArray ..).trans (congrArg List.toArray (show _ = x.vals from rfl))
theorem Post.lsub0_11 (x : Post) : x.vals.take 11 = x.vals := rfl
theorem Post.sub1_10 (x : Post) : x.vals.toArray.extract 1 11 = x.attr.vals.toArray := (List.extract_toArray ..).trans (congrArg List.toArray (show _ = x.attr.vals from rfl))
theorem Post.lsub1_10 (x : Post) : x.vals.tail.take 10 = x.attr.vals := rfl
def Post.good (x : Post) : Prop := x.attr.good

structure Wcc where
  before : Opt
  after : Post
  deriving DecidableEq
def Wcc.vals (x : Wcc) : List Value := x.before.vals ++ x.after.vals
theorem Wcc.len (x : Wcc) : x.vals.length = 13 := rfl
theorem Wcc.one (x : Wcc) : ∀ v ∈ x.vals, v.oneCell' = true := by
  intro v hv
  unfold Wcc.vals at hv
  rcases List.mem_append.1 hv with hv | hv
  · exact Opt.one _ v hv
  · exact Post.one _ v hv
theorem Wcc.at0 (x : Wcc) (h : 0 < x.vals.length) : x.vals[0] = .bool x.before.is := rfl
theorem Wcc.lat0 (x : Wcc) : x.vals[0]? = some (.bool x.before.is) := rfl
theorem Wcc.at1 (x : Wcc) (h : 1 < x.vals.length) : x.vals[1] = .int .i64 x.before.n := rfl
theorem Wcc.lat1 (x : Wcc) : x.vals[1]? = some (.int .i64 x.before.n) := rfl
theorem Wcc.at2 (x : Wcc) (h : 2 < x.vals.length) : x.vals[2] = .bool x.after.is := rfl
theorem Wcc.lat2 (x : Wcc) : x.vals[2]? = some (.bool x.after.is) := rfl
theorem Wcc.at3 (x : Wcc) (h : 3 < x.vals.length) : x.vals[3] = .int .i64 x.after.attr.type := rfl
theorem Wcc.lat3 (x : Wcc) : x.vals[3]? = some (.int .i64 x.after.attr.type) := rfl
theorem Wcc.at4 (x : Wcc) (h : 4 < x.vals.length) : x.vals[4] = .int .i64 x.after.attr.mode := rfl
theorem Wcc.lat4 (x : Wcc) : x.vals[4]? = some (.int .i64 x.after.attr.mode) := rfl
theorem Wcc.at5 (x : Wcc) (h : 5 < x.vals.length) : x.vals[5] = .int .i64 x.after.attr.nlink := rfl
theorem Wcc.lat5 (x : Wcc) : x.vals[5]? = some (.int .i64 x.after.attr.nlink) := rfl
theorem Wcc.at6 (x : Wcc) (h : 6 < x.vals.length) : x.vals[6] = .int .i64 x.after.attr.uid := rfl
theorem Wcc.lat6 (x : Wcc) : x.vals[6]? = some (.int .i64 x.after.attr.uid) := rfl
theorem Wcc.at7 (x : Wcc) (h : 7 < x.vals.length) : x.vals[7] = .int .i64 x.after.attr.gid := rfl
theorem Wcc.lat7 (x : Wcc) : x.vals[7]? = some (.int .i64 x.after.attr.gid) := rfl
theorem Wcc.at8 (x : Wcc) (h : 8 < x.vals.length) : x.vals[8] = .int .i64 x.after.attr.size := rfl
theorem Wcc.lat8 (x : Wcc) : x.vals[8]? = some (.int .i64 x.after.attr.size) := rfl
theorem Wcc.at9 (x : Wcc) (h : 9 < x.vals.length) : x.vals[9] = .int .i64 x.after.attr.id := rfl
theorem Wcc.lat9 (x : Wcc) : x.vals[9]? = some (.int .i64 x.after.attr.id) := rfl
theorem Wcc.at10 (x : Wcc) (h : 10 < x.vals.length) : x.vals[10] = .int .i64 x.after.attr.gen := rfl
theorem Wcc.lat10 (x : Wcc) : x.vals[10]? = some (.int .i64 x.after.attr.gen) := rfl
theorem Wcc.at11 (x : Wcc) (h : 11 < x.vals.length) : x.vals[11] = .int .i64 x.after.attr.change := rfl
theorem Wcc.lat11 (x : Wcc) : x.vals[11]? = some (.int .i64 x.after.attr.change) := rfl
theorem Wcc.at12 (x : Wcc) (h : 12 < x.vals.length) : x.vals[12] = .int .i64 x.after.attr.time := rfl
theorem Wcc.lat12 (x : Wcc) : x.vals[12]? = some (.int .i64 x.after.attr.time) := rfl
theorem Wcc.sub0_13 (x : Wcc) : x.vals.toArray.extract 0 13 = x.vals.toArray := (List.extract_toArray ..).trans (congrArg List.toArray (show _ = x.vals from rfl))
theorem Wcc.lsub0_13 (x : Wcc) : x.vals.take 13 = x.vals := rfl
theorem Wcc.sub0_2 (x : Wcc) : x.vals.toArray.extract 0 2 = x.before.vals.toArray := (List.extract_toArray ..).trans (congrArg List.toArray (show _ = x.before.vals from rfl))
theorem Wcc.lsub0_2 (x : Wcc) : x.vals.take 2 = x.before.vals := rfl
theorem Wcc.sub2_11 (x : Wcc) : x.vals.toArray.extract 2 13 = x.after.vals.toArray := (List.extract_toArray ..).trans (congrArg List.toArray (show _ = x.after.vals from rfl))
theorem Wcc.lsub2_11 (x : Wcc) : (x.vals.drop 2).take 11 = x.after.vals := rfl
theorem Wcc.sub3_10 (x : Wcc) : x.vals.toArray.extract 3 13 = x.after.attr.vals.toArray := (List.extract_toArray ..).trans (congrArg List.toArray (show _ = x.after.attr.vals from rfl))
theorem Wcc.lsub3_10 (x : Wcc) : (x.vals.drop 3).take 10 = x.after.attr.vals := rfl
def Wcc.good (x : Wcc) : Prop := x.before.good ∧ x.after.good

end Go.Proofs.YtapcjojlkeaadaaGreatDoor
