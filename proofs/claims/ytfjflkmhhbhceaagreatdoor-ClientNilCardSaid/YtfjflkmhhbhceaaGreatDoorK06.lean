/-
  The data of results as plain structures, and the cells that each takes (written by wip/tools/structs.py). No condition.
-/
import Derived.Test.YtfjflkmhhbhceaaGreatDoorK03
namespace Go.Proofs.YtfjflkmhhbhceaaGreatDoor
open Go.RowKit

structure Reply where
  status : Int
  fh : List UInt8
  obj : Post
  dir : Post
  wcc : Wcc
  wcc2 : Wcc
  access : Int
  count : Int
  eof : Bool
  data : List UInt8
  stable : Int
  verf : Int
  ea : Option Addr
  en : Nat
  ec : Nat
  ua : Option Addr
  un : Nat
  uc : Nat
def Reply.vals (x : Reply) : List Value := [.int .i64 x.status, .string (bs x.fh)] ++ (x.obj.vals ++ (x.dir.vals ++ (x.wcc.vals ++ (x.wcc2.vals ++ [.int .i64 x.access, .int .i64 x.count, .bool x.eof, .string (bs x.data), .int .i64 x.stable, .int .i64 x.verf, .slice x.ea x.en x.ec, .slice x.ua x.un x.uc]))))
theorem Reply.len (x : Reply) : x.vals.length = 58 := rfl
theorem Reply.one (x : Reply) : ∀ v ∈ x.vals, v.oneCell' = true := by
  intro v hv
  unfold Reply.vals at hv
  rcases List.mem_append.1 hv with hv | hv
  · simp only [List.mem_cons, List.not_mem_nil, or_false] at hv
    rcases hv with rfl | rfl <;> rfl
  · rcases List.mem_append.1 hv with hv | hv
    · exact Post.one _ v hv
    · rcases List.mem_append.1 hv with hv | hv
      · exact Post.one _ v hv
      · rcases List.mem_append.1 hv with hv | hv
        · exact Wcc.one _ v hv
        · rcases List.mem_append.1 hv with hv | hv
          · exact Wcc.one _ v hv
          · simp only [List.mem_cons, List.not_mem_nil, or_false] at hv
            rcases hv with rfl | rfl | rfl | rfl | rfl | rfl | rfl | rfl <;> rfl
theorem Reply.at0 (x : Reply) (h : 0 < x.vals.length) : x.vals[0] = .int .i64 x.status := rfl
theorem Reply.lat0 (x : Reply) : x.vals[0]? = some (.int .i64 x.status) := rfl
theorem Reply.at1 (x : Reply) (h : 1 < x.vals.length) : x.vals[1] = .string (bs x.fh) := rfl
theorem Reply.lat1 (x : Reply) : x.vals[1]? = some (.string (bs x.fh)) := rfl
theorem Reply.at2 (x : Reply) (h : 2 < x.vals.length) : x.vals[2] = .bool x.obj.is := rfl
theorem Reply.lat2 (x : Reply) : x.vals[2]? = some (.bool x.obj.is) := rfl
theorem Reply.at3 (x : Reply) (h : 3 < x.vals.length) : x.vals[3] = .int .i64 x.obj.attr.type := rfl
theorem Reply.lat3 (x : Reply) : x.vals[3]? = some (.int .i64 x.obj.attr.type) := rfl
theorem Reply.at4 (x : Reply) (h : 4 < x.vals.length) : x.vals[4] = .int .i64 x.obj.attr.mode := rfl
theorem Reply.lat4 (x : Reply) : x.vals[4]? = some (.int .i64 x.obj.attr.mode) := rfl
theorem Reply.at5 (x : Reply) (h : 5 < x.vals.length) : x.vals[5] = .int .i64 x.obj.attr.nlink := rfl
theorem Reply.lat5 (x : Reply) : x.vals[5]? = some (.int .i64 x.obj.attr.nlink) := rfl
theorem Reply.at6 (x : Reply) (h : 6 < x.vals.length) : x.vals[6] = .int .i64 x.obj.attr.uid := rfl
theorem Reply.lat6 (x : Reply) : x.vals[6]? = some (.int .i64 x.obj.attr.uid) := rfl
theorem Reply.at7 (x : Reply) (h : 7 < x.vals.length) : x.vals[7] = .int .i64 x.obj.attr.gid := rfl
theorem Reply.lat7 (x : Reply) : x.vals[7]? = some (.int .i64 x.obj.attr.gid) := rfl
theorem Reply.at8 (x : Reply) (h : 8 < x.vals.length) : x.vals[8] = .int .i64 x.obj.attr.size := rfl
theorem Reply.lat8 (x : Reply) : x.vals[8]? = some (.int .i64 x.obj.attr.size) := rfl
theorem Reply.at9 (x : Reply) (h : 9 < x.vals.length) : x.vals[9] = .int .i64 x.obj.attr.id := rfl
theorem Reply.lat9 (x : Reply) : x.vals[9]? = some (.int .i64 x.obj.attr.id) := rfl
theorem Reply.at10 (x : Reply) (h : 10 < x.vals.length) : x.vals[10] = .int .i64 x.obj.attr.gen := rfl
theorem Reply.lat10 (x : Reply) : x.vals[10]? = some (.int .i64 x.obj.attr.gen) := rfl
theorem Reply.at11 (x : Reply) (h : 11 < x.vals.length) : x.vals[11] = .int .i64 x.obj.attr.change := rfl
theorem Reply.lat11 (x : Reply) : x.vals[11]? = some (.int .i64 x.obj.attr.change) := rfl
theorem Reply.at12 (x : Reply) (h : 12 < x.vals.length) : x.vals[12] = .int .i64 x.obj.attr.time := rfl
theorem Reply.lat12 (x : Reply) : x.vals[12]? = some (.int .i64 x.obj.attr.time) := rfl
theorem Reply.at13 (x : Reply) (h : 13 < x.vals.length) : x.vals[13] = .bool x.dir.is := rfl
theorem Reply.lat13 (x : Reply) : x.vals[13]? = some (.bool x.dir.is) := rfl
theorem Reply.at14 (x : Reply) (h : 14 < x.vals.length) : x.vals[14] = .int .i64 x.dir.attr.type := rfl
theorem Reply.lat14 (x : Reply) : x.vals[14]? = some (.int .i64 x.dir.attr.type) := rfl
theorem Reply.at15 (x : Reply) (h : 15 < x.vals.length) : x.vals[15] = .int .i64 x.dir.attr.mode := rfl
theorem Reply.lat15 (x : Reply) : x.vals[15]? = some (.int .i64 x.dir.attr.mode) := rfl
theorem Reply.at16 (x : Reply) (h : 16 < x.vals.length) : x.vals[16] = .int .i64 x.dir.attr.nlink := rfl
theorem Reply.lat16 (x : Reply) : x.vals[16]? = some (.int .i64 x.dir.attr.nlink) := rfl
theorem Reply.at17 (x : Reply) (h : 17 < x.vals.length) : x.vals[17] = .int .i64 x.dir.attr.uid := rfl
theorem Reply.lat17 (x : Reply) : x.vals[17]? = some (.int .i64 x.dir.attr.uid) := rfl
theorem Reply.at18 (x : Reply) (h : 18 < x.vals.length) : x.vals[18] = .int .i64 x.dir.attr.gid := rfl
theorem Reply.lat18 (x : Reply) : x.vals[18]? = some (.int .i64 x.dir.attr.gid) := rfl
theorem Reply.at19 (x : Reply) (h : 19 < x.vals.length) : x.vals[19] = .int .i64 x.dir.attr.size := rfl
theorem Reply.lat19 (x : Reply) : x.vals[19]? = some (.int .i64 x.dir.attr.size) := rfl
theorem Reply.at20 (x : Reply) (h : 20 < x.vals.length) : x.vals[20] = .int .i64 x.dir.attr.id := rfl
theorem Reply.lat20 (x : Reply) : x.vals[20]? = some (.int .i64 x.dir.attr.id) := rfl
theorem Reply.at21 (x : Reply) (h : 21 < x.vals.length) : x.vals[21] = .int .i64 x.dir.attr.gen := rfl
theorem Reply.lat21 (x : Reply) : x.vals[21]? = some (.int .i64 x.dir.attr.gen) := rfl
theorem Reply.at22 (x : Reply) (h : 22 < x.vals.length) : x.vals[22] = .int .i64 x.dir.attr.change := rfl
theorem Reply.lat22 (x : Reply) : x.vals[22]? = some (.int .i64 x.dir.attr.change) := rfl
theorem Reply.at23 (x : Reply) (h : 23 < x.vals.length) : x.vals[23] = .int .i64 x.dir.attr.time := rfl
theorem Reply.lat23 (x : Reply) : x.vals[23]? = some (.int .i64 x.dir.attr.time) := rfl
theorem Reply.at24 (x : Reply) (h : 24 < x.vals.length) : x.vals[24] = .bool x.wcc.before.is := rfl
theorem Reply.lat24 (x : Reply) : x.vals[24]? = some (.bool x.wcc.before.is) := rfl
theorem Reply.at25 (x : Reply) (h : 25 < x.vals.length) : x.vals[25] = .int .i64 x.wcc.before.n := rfl
theorem Reply.lat25 (x : Reply) : x.vals[25]? = some (.int .i64 x.wcc.before.n) := rfl
theorem Reply.at26 (x : Reply) (h : 26 < x.vals.length) : x.vals[26] = .bool x.wcc.after.is := rfl
theorem Reply.lat26 (x : Reply) : x.vals[26]? = some (.bool x.wcc.after.is) := rfl
theorem Reply.at27 (x : Reply) (h : 27 < x.vals.length) : x.vals[27] = .int .i64 x.wcc.after.attr.type := rfl
theorem Reply.lat27 (x : Reply) : x.vals[27]? = some (.int .i64 x.wcc.after.attr.type) := rfl
theorem Reply.at28 (x : Reply) (h : 28 < x.vals.length) : x.vals[28] = .int .i64 x.wcc.after.attr.mode := rfl
theorem Reply.lat28 (x : Reply) : x.vals[28]? = some (.int .i64 x.wcc.after.attr.mode) := rfl
theorem Reply.at29 (x : Reply) (h : 29 < x.vals.length) : x.vals[29] = .int .i64 x.wcc.after.attr.nlink := rfl
theorem Reply.lat29 (x : Reply) : x.vals[29]? = some (.int .i64 x.wcc.after.attr.nlink) := rfl
theorem Reply.at30 (x : Reply) (h : 30 < x.vals.length) : x.vals[30] = .int .i64 x.wcc.after.attr.uid := rfl
theorem Reply.lat30 (x : Reply) : x.vals[30]? = some (.int .i64 x.wcc.after.attr.uid) := rfl
theorem Reply.at31 (x : Reply) (h : 31 < x.vals.length) : x.vals[31] = .int .i64 x.wcc.after.attr.gid := rfl
theorem Reply.lat31 (x : Reply) : x.vals[31]? = some (.int .i64 x.wcc.after.attr.gid) := rfl
theorem Reply.at32 (x : Reply) (h : 32 < x.vals.length) : x.vals[32] = .int .i64 x.wcc.after.attr.size := rfl
theorem Reply.lat32 (x : Reply) : x.vals[32]? = some (.int .i64 x.wcc.after.attr.size) := rfl
theorem Reply.at33 (x : Reply) (h : 33 < x.vals.length) : x.vals[33] = .int .i64 x.wcc.after.attr.id := rfl
theorem Reply.lat33 (x : Reply) : x.vals[33]? = some (.int .i64 x.wcc.after.attr.id) := rfl
theorem Reply.at34 (x : Reply) (h : 34 < x.vals.length) : x.vals[34] = .int .i64 x.wcc.after.attr.gen := rfl
theorem Reply.lat34 (x : Reply) : x.vals[34]? = some (.int .i64 x.wcc.after.attr.gen) := rfl
theorem Reply.at35 (x : Reply) (h : 35 < x.vals.length) : x.vals[35] = .int .i64 x.wcc.after.attr.change := rfl
theorem Reply.lat35 (x : Reply) : x.vals[35]? = some (.int .i64 x.wcc.after.attr.change) := rfl
theorem Reply.at36 (x : Reply) (h : 36 < x.vals.length) : x.vals[36] = .int .i64 x.wcc.after.attr.time := rfl
theorem Reply.lat36 (x : Reply) : x.vals[36]? = some (.int .i64 x.wcc.after.attr.time) := rfl
theorem Reply.at37 (x : Reply) (h : 37 < x.vals.length) : x.vals[37] = .bool x.wcc2.before.is := rfl
theorem Reply.lat37 (x : Reply) : x.vals[37]? = some (.bool x.wcc2.before.is) := rfl
theorem Reply.at38 (x : Reply) (h : 38 < x.vals.length) : x.vals[38] = .int .i64 x.wcc2.before.n := rfl
theorem Reply.lat38 (x : Reply) : x.vals[38]? = some (.int .i64 x.wcc2.before.n) := rfl
theorem Reply.at39 (x : Reply) (h : 39 < x.vals.length) : x.vals[39] = .bool x.wcc2.after.is := rfl
theorem Reply.lat39 (x : Reply) : x.vals[39]? = some (.bool x.wcc2.after.is) := rfl
theorem Reply.at40 (x : Reply) (h : 40 < x.vals.length) : x.vals[40] = .int .i64 x.wcc2.after.attr.type := rfl
theorem Reply.lat40 (x : Reply) : x.vals[40]? = some (.int .i64 x.wcc2.after.attr.type) := rfl
theorem Reply.at41 (x : Reply) (h : 41 < x.vals.length) : x.vals[41] = .int .i64 x.wcc2.after.attr.mode := rfl
theorem Reply.lat41 (x : Reply) : x.vals[41]? = some (.int .i64 x.wcc2.after.attr.mode) := rfl
theorem Reply.at42 (x : Reply) (h : 42 < x.vals.length) : x.vals[42] = .int .i64 x.wcc2.after.attr.nlink := rfl
theorem Reply.lat42 (x : Reply) : x.vals[42]? = some (.int .i64 x.wcc2.after.attr.nlink) := rfl
theorem Reply.at43 (x : Reply) (h : 43 < x.vals.length) : x.vals[43] = .int .i64 x.wcc2.after.attr.uid := rfl
theorem Reply.lat43 (x : Reply) : x.vals[43]? = some (.int .i64 x.wcc2.after.attr.uid) := rfl
theorem Reply.at44 (x : Reply) (h : 44 < x.vals.length) : x.vals[44] = .int .i64 x.wcc2.after.attr.gid := rfl
theorem Reply.lat44 (x : Reply) : x.vals[44]? = some (.int .i64 x.wcc2.after.attr.gid) := rfl
theorem Reply.at45 (x : Reply) (h : 45 < x.vals.length) : x.vals[45] = .int .i64 x.wcc2.after.attr.size := rfl
theorem Reply.lat45 (x : Reply) : x.vals[45]? = some (.int .i64 x.wcc2.after.attr.size) := rfl
theorem Reply.at46 (x : Reply) (h : 46 < x.vals.length) : x.vals[46] = .int .i64 x.wcc2.after.attr.id := rfl
theorem Reply.lat46 (x : Reply) : x.vals[46]? = some (.int .i64 x.wcc2.after.attr.id) := rfl
theorem Reply.at47 (x : Reply) (h : 47 < x.vals.length) : x.vals[47] = .int .i64 x.wcc2.after.attr.gen := rfl
theorem Reply.lat47 (x : Reply) : x.vals[47]? = some (.int .i64 x.wcc2.after.attr.gen) := rfl
theorem Reply.at48 (x : Reply) (h : 48 < x.vals.length) : x.vals[48] = .int .i64 x.wcc2.after.attr.change := rfl
theorem Reply.lat48 (x : Reply) : x.vals[48]? = some (.int .i64 x.wcc2.after.attr.change) := rfl
theorem Reply.at49 (x : Reply) (h : 49 < x.vals.length) : x.vals[49] = .int .i64 x.wcc2.after.attr.time := rfl
theorem Reply.lat49 (x : Reply) : x.vals[49]? = some (.int .i64 x.wcc2.after.attr.time) := rfl
theorem Reply.at50 (x : Reply) (h : 50 < x.vals.length) : x.vals[50] = .int .i64 x.access := rfl
theorem Reply.lat50 (x : Reply) : x.vals[50]? = some (.int .i64 x.access) := rfl
theorem Reply.at51 (x : Reply) (h : 51 < x.vals.length) : x.vals[51] = .int .i64 x.count := rfl
theorem Reply.lat51 (x : Reply) : x.vals[51]? = some (.int .i64 x.count) := rfl
theorem Reply.at52 (x : Reply) (h : 52 < x.vals.length) : x.vals[52] = .bool x.eof := rfl
theorem Reply.lat52 (x : Reply) : x.vals[52]? = some (.bool x.eof) := rfl
theorem Reply.at53 (x : Reply) (h : 53 < x.vals.length) : x.vals[53] = .string (bs x.data) := rfl
theorem Reply.lat53 (x : Reply) : x.vals[53]? = some (.string (bs x.data)) := rfl
theorem Reply.at54 (x : Reply) (h : 54 < x.vals.length) : x.vals[54] = .int .i64 x.stable := rfl
theorem Reply.lat54 (x : Reply) : x.vals[54]? = some (.int .i64 x.stable) := rfl
theorem Reply.at55 (x : Reply) (h : 55 < x.vals.length) : x.vals[55] = .int .i64 x.verf := rfl
theorem Reply.lat55 (x : Reply) : x.vals[55]? = some (.int .i64 x.verf) := rfl
theorem Reply.at56 (x : Reply) (h : 56 < x.vals.length) : x.vals[56] = .slice x.ea x.en x.ec := rfl
theorem Reply.lat56 (x : Reply) : x.vals[56]? = some (.slice x.ea x.en x.ec) := rfl
theorem Reply.at57 (x : Reply) (h : 57 < x.vals.length) : x.vals[57] = .slice x.ua x.un x.uc := rfl
theorem Reply.lat57 (x : Reply) : x.vals[57]? = some (.slice x.ua x.un x.uc) := rfl
theorem Reply.sub0_58 (x : Reply) : x.vals.toArray.extract 0 58 = x.vals.toArray := (List.extract_toArray ..).trans (congrArg List.toArray (show _ = x.vals from rfl))
theorem Reply.lsub0_58 (x : Reply) : x.vals.take 58 = x.vals := rfl
theorem Reply.sub2_11 (x : Reply) : x.vals.toArray.extract 2 13 = x.obj.vals.toArray := (List.extract_toArray ..).trans (congrArg List.toArray (show _ = x.obj.vals from rfl))
theorem Reply.lsub2_11 (x : Reply) : (x.vals.drop 2).take 11 = x.obj.vals := rfl
theorem Reply.sub3_10 (x : Reply) : x.vals.toArray.extract 3 13 = x.obj.attr.vals.toArray := (List.extract_toArray ..).trans (congrArg List.toArray (show _ = x.obj.attr.vals from rfl))
theorem Reply.lsub3_10 (x : Reply) : (x.vals.drop 3).take 10 = x.obj.attr.vals := rfl
theorem Reply.sub13_11 (x : Reply) : x.vals.toArray.extract 13 24 = x.dir.vals.toArray := (List.extract_toArray ..).trans (congrArg List.toArray (show _ = x.dir.vals from rfl))
theorem Reply.lsub13_11 (x : Reply) : (x.vals.drop 13).take 11 = x.dir.vals := rfl
theorem Reply.sub14_10 (x : Reply) : x.vals.toArray.extract 14 24 = x.dir.attr.vals.toArray := (List.extract_toArray ..).trans (congrArg List.toArray (show _ = x.dir.attr.vals from rfl))
theorem Reply.lsub14_10 (x : Reply) : (x.vals.drop 14).take 10 = x.dir.attr.vals := rfl
theorem Reply.sub24_13 (x : Reply) : x.vals.toArray.extract 24 37 = x.wcc.vals.toArray := (List.extract_toArray ..).trans (congrArg List.toArray (show _ = x.wcc.vals from rfl))
theorem Reply.lsub24_13 (x : Reply) : (x.vals.drop 24).take 13 = x.wcc.vals := rfl
theorem Reply.sub24_2 (x : Reply) : x.vals.toArray.extract 24 26 = x.wcc.before.vals.toArray := (List.extract_toArray ..).trans (congrArg List.toArray (show _ = x.wcc.before.vals from rfl))
theorem Reply.lsub24_2 (x : Reply) : (x.vals.drop 24).take 2 = x.wcc.before.vals := rfl
theorem Reply.sub26_11 (x : Reply) : x.vals.toArray.extract 26 37 = x.wcc.after.vals.toArray := (List.extract_toArray ..).trans (congrArg List.toArray (show _ = x.wcc.after.vals from rfl))
theorem Reply.lsub26_11 (x : Reply) : (x.vals.drop 26).take 11 = x.wcc.after.vals := rfl
theorem Reply.sub27_10 (x : Reply) : x.vals.toArray.extract 27 37 = x.wcc.after.attr.vals.toArray := (List.extract_toArray ..).trans (congrArg List.toArray (show _ = x.wcc.after.attr.vals from rfl))
theorem Reply.lsub27_10 (x : Reply) : (x.vals.drop 27).take 10 = x.wcc.after.attr.vals := rfl
theorem Reply.sub37_13 (x : Reply) : x.vals.toArray.extract 37 50 = x.wcc2.vals.toArray := (List.extract_toArray ..).trans (congrArg List.toArray (show _ = x.wcc2.vals from rfl))
theorem Reply.lsub37_13 (x : Reply) : (x.vals.drop 37).take 13 = x.wcc2.vals := rfl
theorem Reply.sub37_2 (x : Reply) : x.vals.toArray.extract 37 39 = x.wcc2.before.vals.toArray := (List.extract_toArray ..).trans (congrArg List.toArray (show _ = x.wcc2.before.vals from rfl))
theorem Reply.lsub37_2 (x : Reply) : (x.vals.drop 37).take 2 = x.wcc2.before.vals := rfl
theorem Reply.sub39_11 (x : Reply) : x.vals.toArray.extract 39 50 = x.wcc2.after.vals.toArray := (List.extract_toArray ..).trans (congrArg List.toArray (show _ = x.wcc2.after.vals from rfl))
theorem Reply.lsub39_11 (x : Reply) : (x.vals.drop 39).take 11 = x.wcc2.after.vals := rfl
theorem Reply.sub40_10 (x : Reply) : x.vals.toArray.extract 40 50 = x.wcc2.after.attr.vals.toArray := (List.extract_toArray ..).trans (congrArg List.toArray (show _ = x.wcc2.after.attr.vals from rfl))
theorem Reply.lsub40_10 (x : Reply) : (x.vals.drop 40).take 10 = x.wcc2.after.attr.vals := rfl
def Reply.good (x : Reply) : Prop := (Lit.int .i64 x.status).wf = true ∧ x.fh.length ≤ maxLen ∧ x.obj.good ∧ x.dir.good ∧ x.wcc.good ∧ x.wcc2.good ∧ (Lit.int .i64 x.access).wf = true ∧ (Lit.int .i64 x.count).wf = true ∧ x.data.length ≤ maxLen ∧ (Lit.int .i64 x.stable).wf = true ∧ (Lit.int .i64 x.verf).wf = true ∧ x.en ≤ maxLen ∧ x.un ≤ maxLen

structure Flds where
  status : Int
  fh : List UInt8
  data : List UInt8
  obj : Post
  dir : Post
  wcc : Wcc
  wcc2 : Wcc
  access : Int
  count : Int
  stable : Int
  verf : Int
  eof : Bool
  deriving DecidableEq
def Flds.vals (x : Flds) : List Value := [.int .i64 x.status, .string (bs x.fh), .string (bs x.data)] ++ (x.obj.vals ++ (x.dir.vals ++ (x.wcc.vals ++ (x.wcc2.vals ++ [.int .i64 x.access, .int .i64 x.count, .int .i64 x.stable, .int .i64 x.verf, .bool x.eof]))))
theorem Flds.len (x : Flds) : x.vals.length = 56 := rfl
theorem Flds.one (x : Flds) : ∀ v ∈ x.vals, v.oneCell' = true := by
  intro v hv
  unfold Flds.vals at hv
  rcases List.mem_append.1 hv with hv | hv
  · simp only [List.mem_cons, List.not_mem_nil, or_false] at hv
    rcases hv with rfl | rfl | rfl <;> rfl
  · rcases List.mem_append.1 hv with hv | hv
    · exact Post.one _ v hv
    · rcases List.mem_append.1 hv with hv | hv
      · exact Post.one _ v hv
      · rcases List.mem_append.1 hv with hv | hv
        · exact Wcc.one _ v hv
        · rcases List.mem_append.1 hv with hv | hv
          · exact Wcc.one _ v hv
          · simp only [List.mem_cons, List.not_mem_nil, or_false] at hv
            rcases hv with rfl | rfl | rfl | rfl | rfl <;> rfl
theorem Flds.at0 (x : Flds) (h : 0 < x.vals.length) : x.vals[0] = .int .i64 x.status := rfl
theorem Flds.lat0 (x : Flds) : x.vals[0]? = some (.int .i64 x.status) := rfl
theorem Flds.at1 (x : Flds) (h : 1 < x.vals.length) : x.vals[1] = .string (bs x.fh) := rfl
theorem Flds.lat1 (x : Flds) : x.vals[1]? = some (.string (bs x.fh)) := rfl
theorem Flds.at2 (x : Flds) (h : 2 < x.vals.length) : x.vals[2] = .string (bs x.data) := rfl
theorem Flds.lat2 (x : Flds) : x.vals[2]? = some (.string (bs x.data)) := rfl
theorem Flds.at3 (x : Flds) (h : 3 < x.vals.length) : x.vals[3] = .bool x.obj.is := rfl
theorem Flds.lat3 (x : Flds) : x.vals[3]? = some (.bool x.obj.is) := rfl
theorem Flds.at4 (x : Flds) (h : 4 < x.vals.length) : x.vals[4] = .int .i64 x.obj.attr.type := rfl
theorem Flds.lat4 (x : Flds) : x.vals[4]? = some (.int .i64 x.obj.attr.type) := rfl
theorem Flds.at5 (x : Flds) (h : 5 < x.vals.length) : x.vals[5] = .int .i64 x.obj.attr.mode := rfl
theorem Flds.lat5 (x : Flds) : x.vals[5]? = some (.int .i64 x.obj.attr.mode) := rfl
theorem Flds.at6 (x : Flds) (h : 6 < x.vals.length) : x.vals[6] = .int .i64 x.obj.attr.nlink := rfl
theorem Flds.lat6 (x : Flds) : x.vals[6]? = some (.int .i64 x.obj.attr.nlink) := rfl
theorem Flds.at7 (x : Flds) (h : 7 < x.vals.length) : x.vals[7] = .int .i64 x.obj.attr.uid := rfl
theorem Flds.lat7 (x : Flds) : x.vals[7]? = some (.int .i64 x.obj.attr.uid) := rfl
theorem Flds.at8 (x : Flds) (h : 8 < x.vals.length) : x.vals[8] = .int .i64 x.obj.attr.gid := rfl
theorem Flds.lat8 (x : Flds) : x.vals[8]? = some (.int .i64 x.obj.attr.gid) := rfl
theorem Flds.at9 (x : Flds) (h : 9 < x.vals.length) : x.vals[9] = .int .i64 x.obj.attr.size := rfl
theorem Flds.lat9 (x : Flds) : x.vals[9]? = some (.int .i64 x.obj.attr.size) := rfl
theorem Flds.at10 (x : Flds) (h : 10 < x.vals.length) : x.vals[10] = .int .i64 x.obj.attr.id := rfl
theorem Flds.lat10 (x : Flds) : x.vals[10]? = some (.int .i64 x.obj.attr.id) := rfl
theorem Flds.at11 (x : Flds) (h : 11 < x.vals.length) : x.vals[11] = .int .i64 x.obj.attr.gen := rfl
theorem Flds.lat11 (x : Flds) : x.vals[11]? = some (.int .i64 x.obj.attr.gen) := rfl
theorem Flds.at12 (x : Flds) (h : 12 < x.vals.length) : x.vals[12] = .int .i64 x.obj.attr.change := rfl
theorem Flds.lat12 (x : Flds) : x.vals[12]? = some (.int .i64 x.obj.attr.change) := rfl
theorem Flds.at13 (x : Flds) (h : 13 < x.vals.length) : x.vals[13] = .int .i64 x.obj.attr.time := rfl
theorem Flds.lat13 (x : Flds) : x.vals[13]? = some (.int .i64 x.obj.attr.time) := rfl
theorem Flds.at14 (x : Flds) (h : 14 < x.vals.length) : x.vals[14] = .bool x.dir.is := rfl
theorem Flds.lat14 (x : Flds) : x.vals[14]? = some (.bool x.dir.is) := rfl
theorem Flds.at15 (x : Flds) (h : 15 < x.vals.length) : x.vals[15] = .int .i64 x.dir.attr.type := rfl
theorem Flds.lat15 (x : Flds) : x.vals[15]? = some (.int .i64 x.dir.attr.type) := rfl
theorem Flds.at16 (x : Flds) (h : 16 < x.vals.length) : x.vals[16] = .int .i64 x.dir.attr.mode := rfl
theorem Flds.lat16 (x : Flds) : x.vals[16]? = some (.int .i64 x.dir.attr.mode) := rfl
theorem Flds.at17 (x : Flds) (h : 17 < x.vals.length) : x.vals[17] = .int .i64 x.dir.attr.nlink := rfl
theorem Flds.lat17 (x : Flds) : x.vals[17]? = some (.int .i64 x.dir.attr.nlink) := rfl
theorem Flds.at18 (x : Flds) (h : 18 < x.vals.length) : x.vals[18] = .int .i64 x.dir.attr.uid := rfl
theorem Flds.lat18 (x : Flds) : x.vals[18]? = some (.int .i64 x.dir.attr.uid) := rfl
theorem Flds.at19 (x : Flds) (h : 19 < x.vals.length) : x.vals[19] = .int .i64 x.dir.attr.gid := rfl
theorem Flds.lat19 (x : Flds) : x.vals[19]? = some (.int .i64 x.dir.attr.gid) := rfl
theorem Flds.at20 (x : Flds) (h : 20 < x.vals.length) : x.vals[20] = .int .i64 x.dir.attr.size := rfl
theorem Flds.lat20 (x : Flds) : x.vals[20]? = some (.int .i64 x.dir.attr.size) := rfl
theorem Flds.at21 (x : Flds) (h : 21 < x.vals.length) : x.vals[21] = .int .i64 x.dir.attr.id := rfl
theorem Flds.lat21 (x : Flds) : x.vals[21]? = some (.int .i64 x.dir.attr.id) := rfl
theorem Flds.at22 (x : Flds) (h : 22 < x.vals.length) : x.vals[22] = .int .i64 x.dir.attr.gen := rfl
theorem Flds.lat22 (x : Flds) : x.vals[22]? = some (.int .i64 x.dir.attr.gen) := rfl
theorem Flds.at23 (x : Flds) (h : 23 < x.vals.length) : x.vals[23] = .int .i64 x.dir.attr.change := rfl
theorem Flds.lat23 (x : Flds) : x.vals[23]? = some (.int .i64 x.dir.attr.change) := rfl
theorem Flds.at24 (x : Flds) (h : 24 < x.vals.length) : x.vals[24] = .int .i64 x.dir.attr.time := rfl
theorem Flds.lat24 (x : Flds) : x.vals[24]? = some (.int .i64 x.dir.attr.time) := rfl
theorem Flds.at25 (x : Flds) (h : 25 < x.vals.length) : x.vals[25] = .bool x.wcc.before.is := rfl
theorem Flds.lat25 (x : Flds) : x.vals[25]? = some (.bool x.wcc.before.is) := rfl
theorem Flds.at26 (x : Flds) (h : 26 < x.vals.length) : x.vals[26] = .int .i64 x.wcc.before.n := rfl
theorem Flds.lat26 (x : Flds) : x.vals[26]? = some (.int .i64 x.wcc.before.n) := rfl
theorem Flds.at27 (x : Flds) (h : 27 < x.vals.length) : x.vals[27] = .bool x.wcc.after.is := rfl
theorem Flds.lat27 (x : Flds) : x.vals[27]? = some (.bool x.wcc.after.is) := rfl
theorem Flds.at28 (x : Flds) (h : 28 < x.vals.length) : x.vals[28] = .int .i64 x.wcc.after.attr.type := rfl
theorem Flds.lat28 (x : Flds) : x.vals[28]? = some (.int .i64 x.wcc.after.attr.type) := rfl
theorem Flds.at29 (x : Flds) (h : 29 < x.vals.length) : x.vals[29] = .int .i64 x.wcc.after.attr.mode := rfl
theorem Flds.lat29 (x : Flds) : x.vals[29]? = some (.int .i64 x.wcc.after.attr.mode) := rfl
theorem Flds.at30 (x : Flds) (h : 30 < x.vals.length) : x.vals[30] = .int .i64 x.wcc.after.attr.nlink := rfl
theorem Flds.lat30 (x : Flds) : x.vals[30]? = some (.int .i64 x.wcc.after.attr.nlink) := rfl
theorem Flds.at31 (x : Flds) (h : 31 < x.vals.length) : x.vals[31] = .int .i64 x.wcc.after.attr.uid := rfl
theorem Flds.lat31 (x : Flds) : x.vals[31]? = some (.int .i64 x.wcc.after.attr.uid) := rfl
theorem Flds.at32 (x : Flds) (h : 32 < x.vals.length) : x.vals[32] = .int .i64 x.wcc.after.attr.gid := rfl
theorem Flds.lat32 (x : Flds) : x.vals[32]? = some (.int .i64 x.wcc.after.attr.gid) := rfl
theorem Flds.at33 (x : Flds) (h : 33 < x.vals.length) : x.vals[33] = .int .i64 x.wcc.after.attr.size := rfl
theorem Flds.lat33 (x : Flds) : x.vals[33]? = some (.int .i64 x.wcc.after.attr.size) := rfl
theorem Flds.at34 (x : Flds) (h : 34 < x.vals.length) : x.vals[34] = .int .i64 x.wcc.after.attr.id := rfl
theorem Flds.lat34 (x : Flds) : x.vals[34]? = some (.int .i64 x.wcc.after.attr.id) := rfl
theorem Flds.at35 (x : Flds) (h : 35 < x.vals.length) : x.vals[35] = .int .i64 x.wcc.after.attr.gen := rfl
theorem Flds.lat35 (x : Flds) : x.vals[35]? = some (.int .i64 x.wcc.after.attr.gen) := rfl
theorem Flds.at36 (x : Flds) (h : 36 < x.vals.length) : x.vals[36] = .int .i64 x.wcc.after.attr.change := rfl
theorem Flds.lat36 (x : Flds) : x.vals[36]? = some (.int .i64 x.wcc.after.attr.change) := rfl
theorem Flds.at37 (x : Flds) (h : 37 < x.vals.length) : x.vals[37] = .int .i64 x.wcc.after.attr.time := rfl
theorem Flds.lat37 (x : Flds) : x.vals[37]? = some (.int .i64 x.wcc.after.attr.time) := rfl
theorem Flds.at38 (x : Flds) (h : 38 < x.vals.length) : x.vals[38] = .bool x.wcc2.before.is := rfl
theorem Flds.lat38 (x : Flds) : x.vals[38]? = some (.bool x.wcc2.before.is) := rfl
theorem Flds.at39 (x : Flds) (h : 39 < x.vals.length) : x.vals[39] = .int .i64 x.wcc2.before.n := rfl
theorem Flds.lat39 (x : Flds) : x.vals[39]? = some (.int .i64 x.wcc2.before.n) := rfl
theorem Flds.at40 (x : Flds) (h : 40 < x.vals.length) : x.vals[40] = .bool x.wcc2.after.is := rfl
theorem Flds.lat40 (x : Flds) : x.vals[40]? = some (.bool x.wcc2.after.is) := rfl
theorem Flds.at41 (x : Flds) (h : 41 < x.vals.length) : x.vals[41] = .int .i64 x.wcc2.after.attr.type := rfl
theorem Flds.lat41 (x : Flds) : x.vals[41]? = some (.int .i64 x.wcc2.after.attr.type) := rfl
theorem Flds.at42 (x : Flds) (h : 42 < x.vals.length) : x.vals[42] = .int .i64 x.wcc2.after.attr.mode := rfl
theorem Flds.lat42 (x : Flds) : x.vals[42]? = some (.int .i64 x.wcc2.after.attr.mode) := rfl
theorem Flds.at43 (x : Flds) (h : 43 < x.vals.length) : x.vals[43] = .int .i64 x.wcc2.after.attr.nlink := rfl
theorem Flds.lat43 (x : Flds) : x.vals[43]? = some (.int .i64 x.wcc2.after.attr.nlink) := rfl
theorem Flds.at44 (x : Flds) (h : 44 < x.vals.length) : x.vals[44] = .int .i64 x.wcc2.after.attr.uid := rfl
theorem Flds.lat44 (x : Flds) : x.vals[44]? = some (.int .i64 x.wcc2.after.attr.uid) := rfl
theorem Flds.at45 (x : Flds) (h : 45 < x.vals.length) : x.vals[45] = .int .i64 x.wcc2.after.attr.gid := rfl
theorem Flds.lat45 (x : Flds) : x.vals[45]? = some (.int .i64 x.wcc2.after.attr.gid) := rfl
theorem Flds.at46 (x : Flds) (h : 46 < x.vals.length) : x.vals[46] = .int .i64 x.wcc2.after.attr.size := rfl
theorem Flds.lat46 (x : Flds) : x.vals[46]? = some (.int .i64 x.wcc2.after.attr.size) := rfl
theorem Flds.at47 (x : Flds) (h : 47 < x.vals.length) : x.vals[47] = .int .i64 x.wcc2.after.attr.id := rfl
theorem Flds.lat47 (x : Flds) : x.vals[47]? = some (.int .i64 x.wcc2.after.attr.id) := rfl
theorem Flds.at48 (x : Flds) (h : 48 < x.vals.length) : x.vals[48] = .int .i64 x.wcc2.after.attr.gen := rfl
theorem Flds.lat48 (x : Flds) : x.vals[48]? = some (.int .i64 x.wcc2.after.attr.gen) := rfl
theorem Flds.at49 (x : Flds) (h : 49 < x.vals.length) : x.vals[49] = .int .i64 x.wcc2.after.attr.change := rfl
theorem Flds.lat49 (x : Flds) : x.vals[49]? = some (.int .i64 x.wcc2.after.attr.change) := rfl
theorem Flds.at50 (x : Flds) (h : 50 < x.vals.length) : x.vals[50] = .int .i64 x.wcc2.after.attr.time := rfl
theorem Flds.lat50 (x : Flds) : x.vals[50]? = some (.int .i64 x.wcc2.after.attr.time) := rfl
theorem Flds.at51 (x : Flds) (h : 51 < x.vals.length) : x.vals[51] = .int .i64 x.access := rfl
theorem Flds.lat51 (x : Flds) : x.vals[51]? = some (.int .i64 x.access) := rfl
theorem Flds.at52 (x : Flds) (h : 52 < x.vals.length) : x.vals[52] = .int .i64 x.count := rfl
theorem Flds.lat52 (x : Flds) : x.vals[52]? = some (.int .i64 x.count) := rfl
theorem Flds.at53 (x : Flds) (h : 53 < x.vals.length) : x.vals[53] = .int .i64 x.stable := rfl
theorem Flds.lat53 (x : Flds) : x.vals[53]? = some (.int .i64 x.stable) := rfl
theorem Flds.at54 (x : Flds) (h : 54 < x.vals.length) : x.vals[54] = .int .i64 x.verf := rfl
theorem Flds.lat54 (x : Flds) : x.vals[54]? = some (.int .i64 x.verf) := rfl
theorem Flds.at55 (x : Flds) (h : 55 < x.vals.length) : x.vals[55] = .bool x.eof := rfl
theorem Flds.lat55 (x : Flds) : x.vals[55]? = some (.bool x.eof) := rfl
theorem Flds.sub0_56 (x : Flds) : x.vals.toArray.extract 0 56 = x.vals.toArray := (List.extract_toArray ..).trans (congrArg List.toArray (show _ = x.vals from rfl))
theorem Flds.lsub0_56 (x : Flds) : x.vals.take 56 = x.vals := rfl
theorem Flds.sub3_11 (x : Flds) : x.vals.toArray.extract 3 14 = x.obj.vals.toArray := (List.extract_toArray ..).trans (congrArg List.toArray (show _ = x.obj.vals from rfl))
theorem Flds.lsub3_11 (x : Flds) : (x.vals.drop 3).take 11 = x.obj.vals := rfl
theorem Flds.sub4_10 (x : Flds) : x.vals.toArray.extract 4 14 = x.obj.attr.vals.toArray := (List.extract_toArray ..).trans (congrArg List.toArray (show _ = x.obj.attr.vals from rfl))
theorem Flds.lsub4_10 (x : Flds) : (x.vals.drop 4).take 10 = x.obj.attr.vals := rfl
theorem Flds.sub14_11 (x : Flds) : x.vals.toArray.extract 14 25 = x.dir.vals.toArray := (List.extract_toArray ..).trans (congrArg List.toArray (show _ = x.dir.vals from rfl))
theorem Flds.lsub14_11 (x : Flds) : (x.vals.drop 14).take 11 = x.dir.vals := rfl
theorem Flds.sub15_10 (x : Flds) : x.vals.toArray.extract 15 25 = x.dir.attr.vals.toArray := (List.extract_toArray ..).trans (congrArg List.toArray (show _ = x.dir.attr.vals from rfl))
theorem Flds.lsub15_10 (x : Flds) : (x.vals.drop 15).take 10 = x.dir.attr.vals := rfl
theorem Flds.sub25_13 (x : Flds) : x.vals.toArray.extract 25 38 = x.wcc.vals.toArray := (List.extract_toArray ..).trans (congrArg List.toArray (show _ = x.wcc.vals from rfl))
theorem Flds.lsub25_13 (x : Flds) : (x.vals.drop 25).take 13 = x.wcc.vals := rfl
theorem Flds.sub25_2 (x : Flds) : x.vals.toArray.extract 25 27 = x.wcc.before.vals.toArray := (List.extract_toArray ..).trans (congrArg List.toArray (show _ = x.wcc.before.vals from rfl))
theorem Flds.lsub25_2 (x : Flds) : (x.vals.drop 25).take 2 = x.wcc.before.vals := rfl
theorem Flds.sub27_11 (x : Flds) : x.vals.toArray.extract 27 38 = x.wcc.after.vals.toArray := (List.extract_toArray ..).trans (congrArg List.toArray (show _ = x.wcc.after.vals from rfl))
theorem Flds.lsub27_11 (x : Flds) : (x.vals.drop 27).take 11 = x.wcc.after.vals := rfl
theorem Flds.sub28_10 (x : Flds) : x.vals.toArray.extract 28 38 = x.wcc.after.attr.vals.toArray := (List.extract_toArray ..).trans (congrArg List.toArray (show _ = x.wcc.after.attr.vals from rfl))
theorem Flds.lsub28_10 (x : Flds) : (x.vals.drop 28).take 10 = x.wcc.after.attr.vals := rfl
theorem Flds.sub38_13 (x : Flds) : x.vals.toArray.extract 38 51 = x.wcc2.vals.toArray := (List.extract_toArray ..).trans (congrArg List.toArray (show _ = x.wcc2.vals from rfl))
theorem Flds.lsub38_13 (x : Flds) : (x.vals.drop 38).take 13 = x.wcc2.vals := rfl
theorem Flds.sub38_2 (x : Flds) : x.vals.toArray.extract 38 40 = x.wcc2.before.vals.toArray := (List.extract_toArray ..).trans (congrArg List.toArray (show _ = x.wcc2.before.vals from rfl))
theorem Flds.lsub38_2 (x : Flds) : (x.vals.drop 38).take 2 = x.wcc2.before.vals := rfl
theorem Flds.sub40_11 (x : Flds) : x.vals.toArray.extract 40 51 = x.wcc2.after.vals.toArray := (List.extract_toArray ..).trans (congrArg List.toArray (show _ = x.wcc2.after.vals from rfl))
theorem Flds.lsub40_11 (x : Flds) : (x.vals.drop 40).take 11 = x.wcc2.after.vals := rfl
theorem Flds.sub41_10 (x : Flds) : x.vals.toArray.extract 41 51 = x.wcc2.after.attr.vals.toArray := (List.extract_toArray ..).trans (congrArg List.toArray (show _ = x.wcc2.after.attr.vals from rfl))
theorem Flds.lsub41_10 (x : Flds) : (x.vals.drop 41).take 10 = x.wcc2.after.attr.vals := rfl
def Flds.good (x : Flds) : Prop := (Lit.int .i64 x.status).wf = true ∧ x.fh.length ≤ maxLen ∧ x.data.length ≤ maxLen ∧ x.obj.good ∧ x.dir.good ∧ x.wcc.good ∧ x.wcc2.good ∧ (Lit.int .i64 x.access).wf = true ∧ (Lit.int .i64 x.count).wf = true ∧ (Lit.int .i64 x.stable).wf = true ∧ (Lit.int .i64 x.verf).wf = true

end Go.Proofs.YtfjflkmhhbhceaaGreatDoor
