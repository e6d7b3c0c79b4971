/-
  The data of clients, and of what is asked of them, as plain structures, and the cells that each takes (written by wip/tools/structs.py). No condition.
-/
import Derived.Test.YtfjflkmhhbhceaaGreatDoorK04
import Derived.Test.YtfjflkmhhbhceaaGreatDoorK06
namespace Go.Proofs.YtfjflkmhhbhceaaGreatDoor
open Go.RowKit

structure Packet where
  from_ : Int
  to_ : Int
  data : List UInt8
  deriving DecidableEq
def Packet.vals (x : Packet) : List Value := [.int .i64 x.from_, .int .i64 x.to_, .string (bs x.data)]
theorem Packet.len (x : Packet) : x.vals.length = 3 := rfl
theorem Packet.one (x : Packet) : ∀ v ∈ x.vals, v.oneCell' = true := by
  intro v hv
  unfold Packet.vals at hv
  simp only [List.mem_cons, List.not_mem_nil, or_false] at hv
  rcases hv with rfl | rfl | rfl <;> rfl
theorem Packet.at0 (x : Packet) (h : 0 < x.vals.length) : x.vals[0] = .int .i64 x.from_ := rfl
theorem Packet.lat0 (x : Packet) : x.vals[0]? = some (.int .i64 x.from_) := rfl
theorem Packet.at1 (x : Packet) (h : 1 < x.vals.length) : x.vals[1] = .int .i64 x.to_ := rfl
theorem Packet.lat1 (x : Packet) : x.vals[1]? = some (.int .i64 x.to_) := rfl
theorem Packet.at2 (x : Packet) (h : 2 < x.vals.length) : x.vals[2] = .string (bs x.data) := rfl
theorem Packet.lat2 (x : Packet) : x.vals[2]? = some (.string (bs x.data)) := rfl
theorem Packet.sub0_3 (x : Packet) : x.vals.toArray.extract 0 3 = x.vals.toArray := (List.extract_toArray ..).trans (congrArg List.toArray (show _ = x.vals from rfl))
theorem Packet.lsub0_3 (x : Packet) : x.vals.take 3 = x.vals := rfl
def Packet.good (x : Packet) : Prop := (Lit.int .i64 x.from_).wf = true ∧ (Lit.int .i64 x.to_).wf = true ∧ x.data.length ≤ maxLen

structure Ask where
  kind : Int
  var : Int
  dir : Int
  to_ : Int
  uid : Int
  gid : Int
  call : Call
  deriving DecidableEq
def Ask.vals (x : Ask) : List Value := [.int .i64 x.kind, .int .i64 x.var, .int .i64 x.dir, .int .i64 x.to_, .int .i64 x.uid, .int .i64 x.gid] ++ x.call.vals
theorem Ask.len (x : Ask) : x.vals.length = 30 := rfl
theorem Ask.one (x : Ask) : ∀ v ∈ x.vals, v.oneCell' = true := by
  intro v hv
  unfold Ask.vals at hv
  rcases List.mem_append.1 hv with hv | hv
  · simp only [List.mem_cons, List.not_mem_nil, or_false] at hv
    rcases hv with rfl | rfl | rfl | rfl | rfl | rfl <;> rfl
  · exact Call.one _ v hv
theorem Ask.at0 (x : Ask) (h : 0 < x.vals.length) : x.vals[0] = .int .i64 x.kind := rfl
theorem Ask.lat0 (x : Ask) : x.vals[0]? = some (.int .i64 x.kind) := rfl
theorem Ask.at1 (x : Ask) (h : 1 < x.vals.length) : x.vals[1] = .int .i64 x.var := rfl
theorem Ask.lat1 (x : Ask) : x.vals[1]? = some (.int .i64 x.var) := rfl
theorem Ask.at2 (x : Ask) (h : 2 < x.vals.length) : x.vals[2] = .int .i64 x.dir := rfl
theorem Ask.lat2 (x : Ask) : x.vals[2]? = some (.int .i64 x.dir) := rfl
theorem Ask.at3 (x : Ask) (h : 3 < x.vals.length) : x.vals[3] = .int .i64 x.to_ := rfl
theorem Ask.lat3 (x : Ask) : x.vals[3]? = some (.int .i64 x.to_) := rfl
theorem Ask.at4 (x : Ask) (h : 4 < x.vals.length) : x.vals[4] = .int .i64 x.uid := rfl
theorem Ask.lat4 (x : Ask) : x.vals[4]? = some (.int .i64 x.uid) := rfl
theorem Ask.at5 (x : Ask) (h : 5 < x.vals.length) : x.vals[5] = .int .i64 x.gid := rfl
theorem Ask.lat5 (x : Ask) : x.vals[5]? = some (.int .i64 x.gid) := rfl
theorem Ask.at6 (x : Ask) (h : 6 < x.vals.length) : x.vals[6] = .int .i64 x.call.proc := rfl
theorem Ask.lat6 (x : Ask) : x.vals[6]? = some (.int .i64 x.call.proc) := rfl
theorem Ask.at7 (x : Ask) (h : 7 < x.vals.length) : x.vals[7] = .string (bs x.call.fh) := rfl
theorem Ask.lat7 (x : Ask) : x.vals[7]? = some (.string (bs x.call.fh)) := rfl
theorem Ask.at8 (x : Ask) (h : 8 < x.vals.length) : x.vals[8] = .string (bs x.call.name) := rfl
theorem Ask.lat8 (x : Ask) : x.vals[8]? = some (.string (bs x.call.name)) := rfl
theorem Ask.at9 (x : Ask) (h : 9 < x.vals.length) : x.vals[9] = .string (bs x.call.fh2) := rfl
theorem Ask.lat9 (x : Ask) : x.vals[9]? = some (.string (bs x.call.fh2)) := rfl
theorem Ask.at10 (x : Ask) (h : 10 < x.vals.length) : x.vals[10] = .string (bs x.call.name2) := rfl
theorem Ask.lat10 (x : Ask) : x.vals[10]? = some (.string (bs x.call.name2)) := rfl
theorem Ask.at11 (x : Ask) (h : 11 < x.vals.length) : x.vals[11] = .int .i64 x.call.offset := rfl
theorem Ask.lat11 (x : Ask) : x.vals[11]? = some (.int .i64 x.call.offset) := rfl
theorem Ask.at12 (x : Ask) (h : 12 < x.vals.length) : x.vals[12] = .int .i64 x.call.count := rfl
theorem Ask.lat12 (x : Ask) : x.vals[12]? = some (.int .i64 x.call.count) := rfl
theorem Ask.at13 (x : Ask) (h : 13 < x.vals.length) : x.vals[13] = .int .i64 x.call.how := rfl
theorem Ask.lat13 (x : Ask) : x.vals[13]? = some (.int .i64 x.call.how) := rfl
theorem Ask.at14 (x : Ask) (h : 14 < x.vals.length) : x.vals[14] = .string (bs x.call.data) := rfl
theorem Ask.lat14 (x : Ask) : x.vals[14]? = some (.string (bs x.call.data)) := rfl
theorem Ask.at15 (x : Ask) (h : 15 < x.vals.length) : x.vals[15] = .bool x.call.set.mode.is := rfl
theorem Ask.lat15 (x : Ask) : x.vals[15]? = some (.bool x.call.set.mode.is) := rfl
theorem Ask.at16 (x : Ask) (h : 16 < x.vals.length) : x.vals[16] = .int .i64 x.call.set.mode.n := rfl
theorem Ask.lat16 (x : Ask) : x.vals[16]? = some (.int .i64 x.call.set.mode.n) := rfl
theorem Ask.at17 (x : Ask) (h : 17 < x.vals.length) : x.vals[17] = .bool x.call.set.uid.is := rfl
theorem Ask.lat17 (x : Ask) : x.vals[17]? = some (.bool x.call.set.uid.is) := rfl
theorem Ask.at18 (x : Ask) (h : 18 < x.vals.length) : x.vals[18] = .int .i64 x.call.set.uid.n := rfl
theorem Ask.lat18 (x : Ask) : x.vals[18]? = some (.int .i64 x.call.set.uid.n) := rfl
theorem Ask.at19 (x : Ask) (h : 19 < x.vals.length) : x.vals[19] = .bool x.call.set.gid.is := rfl
theorem Ask.lat19 (x : Ask) : x.vals[19]? = some (.bool x.call.set.gid.is) := rfl
theorem Ask.at20 (x : Ask) (h : 20 < x.vals.length) : x.vals[20] = .int .i64 x.call.set.gid.n := rfl
theorem Ask.lat20 (x : Ask) : x.vals[20]? = some (.int .i64 x.call.set.gid.n) := rfl
theorem Ask.at21 (x : Ask) (h : 21 < x.vals.length) : x.vals[21] = .bool x.call.set.size.is := rfl
theorem Ask.lat21 (x : Ask) : x.vals[21]? = some (.bool x.call.set.size.is) := rfl
theorem Ask.at22 (x : Ask) (h : 22 < x.vals.length) : x.vals[22] = .int .i64 x.call.set.size.n := rfl
theorem Ask.lat22 (x : Ask) : x.vals[22]? = some (.int .i64 x.call.set.size.n) := rfl
theorem Ask.at23 (x : Ask) (h : 23 < x.vals.length) : x.vals[23] = .bool x.call.set.time.is := rfl
theorem Ask.lat23 (x : Ask) : x.vals[23]? = some (.bool x.call.set.time.is) := rfl
theorem Ask.at24 (x : Ask) (h : 24 < x.vals.length) : x.vals[24] = .int .i64 x.call.set.time.n := rfl
theorem Ask.lat24 (x : Ask) : x.vals[24]? = some (.int .i64 x.call.set.time.n) := rfl
theorem Ask.at25 (x : Ask) (h : 25 < x.vals.length) : x.vals[25] = .bool x.call.guard.is := rfl
theorem Ask.lat25 (x : Ask) : x.vals[25]? = some (.bool x.call.guard.is) := rfl
theorem Ask.at26 (x : Ask) (h : 26 < x.vals.length) : x.vals[26] = .int .i64 x.call.guard.n := rfl
theorem Ask.lat26 (x : Ask) : x.vals[26]? = some (.int .i64 x.call.guard.n) := rfl
theorem Ask.at27 (x : Ask) (h : 27 < x.vals.length) : x.vals[27] = .int .i64 x.call.cookie := rfl
theorem Ask.lat27 (x : Ask) : x.vals[27]? = some (.int .i64 x.call.cookie) := rfl
theorem Ask.at28 (x : Ask) (h : 28 < x.vals.length) : x.vals[28] = .int .i64 x.call.verf := rfl
theorem Ask.lat28 (x : Ask) : x.vals[28]? = some (.int .i64 x.call.verf) := rfl
theorem Ask.at29 (x : Ask) (h : 29 < x.vals.length) : x.vals[29] = .string (bs x.call.text) := rfl
theorem Ask.lat29 (x : Ask) : x.vals[29]? = some (.string (bs x.call.text)) := rfl
theorem Ask.sub0_30 (x : Ask) : x.vals.toArray.extract 0 30 = x.vals.toArray := (List.extract_toArray ..).trans (congrArg List.toArray (show _ = x.vals from rfl))
theorem Ask.lsub0_30 (x : Ask) : x.vals.take 30 = x.vals := rfl
theorem Ask.sub6_24 (x : Ask) : x.vals.toArray.extract 6 30 = x.call.vals.toArray := (List.extract_toArray ..).trans (congrArg List.toArray (show _ = x.call.vals from rfl))
theorem Ask.lsub6_24 (x : Ask) : (x.vals.drop 6).take 24 = x.call.vals := rfl
theorem Ask.sub15_10 (x : Ask) : x.vals.toArray.extract 15 25 = x.call.set.vals.toArray := (List.extract_toArray ..).trans (congrArg List.toArray (show _ = x.call.set.vals from rfl))
theorem Ask.lsub15_10 (x : Ask) : (x.vals.drop 15).take 10 = x.call.set.vals := rfl
theorem Ask.sub15_2 (x : Ask) : x.vals.toArray.extract 15 17 = x.call.set.mode.vals.toArray := (List.extract_toArray ..).trans (congrArg List.toArray (show _ = x.call.set.mode.vals from rfl))
theorem Ask.lsub15_2 (x : Ask) : (x.vals.drop 15).take 2 = x.call.set.mode.vals := rfl
theorem Ask.sub17_2 (x : Ask) : x.vals.toArray.extract 17 19 = x.call.set.uid.vals.toArray := (List.extract_toArray ..).trans (congrArg List.toArray (show _ = x.call.set.uid.vals from rfl))
theorem Ask.lsub17_2 (x : Ask) : (x.vals.drop 17).take 2 = x.call.set.uid.vals := rfl
theorem Ask.sub19_2 (x : Ask) : x.vals.toArray.extract 19 21 = x.call.set.gid.vals.toArray := (List.extract_toArray ..).trans (congrArg List.toArray (show _ = x.call.set.gid.vals from rfl))
theorem Ask.lsub19_2 (x : Ask) : (x.vals.drop 19).take 2 = x.call.set.gid.vals := rfl
theorem Ask.sub21_2 (x : Ask) : x.vals.toArray.extract 21 23 = x.call.set.size.vals.toArray := (List.extract_toArray ..).trans (congrArg List.toArray (show _ = x.call.set.size.vals from rfl))
theorem Ask.lsub21_2 (x : Ask) : (x.vals.drop 21).take 2 = x.call.set.size.vals := rfl
theorem Ask.sub23_2 (x : Ask) : x.vals.toArray.extract 23 25 = x.call.set.time.vals.toArray := (List.extract_toArray ..).trans (congrArg List.toArray (show _ = x.call.set.time.vals from rfl))
theorem Ask.lsub23_2 (x : Ask) : (x.vals.drop 23).take 2 = x.call.set.time.vals := rfl
theorem Ask.sub25_2 (x : Ask) : x.vals.toArray.extract 25 27 = x.call.guard.vals.toArray := (List.extract_toArray ..).trans (congrArg List.toArray (show _ = x.call.guard.vals from rfl))
theorem Ask.lsub25_2 (x : Ask) : (x.vals.drop 25).take 2 = x.call.guard.vals := rfl
def Ask.good (x : Ask) : Prop := (Lit.int .i64 x.kind).wf = true ∧ (Lit.int .i64 x.var).wf = true ∧ (Lit.int .i64 x.dir).wf = true ∧ (Lit.int .i64 x.to_).wf = true ∧ (Lit.int .i64 x.uid).wf = true ∧ (Lit.int .i64 x.gid).wf = true ∧ x.call.good

structure CPlace where
  handle : List UInt8
  gen : Int
  at_ : Int
  bytes : List UInt8
  deriving DecidableEq
def CPlace.vals (x : CPlace) : List Value := [.string (bs x.handle), .int .i64 x.gen, .int .i64 x.at_, .string (bs x.bytes)]
theorem CPlace.len (x : CPlace) : x.vals.length = 4 := rfl
theorem CPlace.one (x : CPlace) : ∀ v ∈ x.vals, v.oneCell' = true := by
  intro v hv
  unfold CPlace.vals at hv
  simp only [List.mem_cons, List.not_mem_nil, or_false] at hv
  rcases hv with rfl | rfl | rfl | rfl <;> rfl
theorem CPlace.at0 (x : CPlace) (h : 0 < x.vals.length) : x.vals[0] = .string (bs x.handle) := rfl
theorem CPlace.lat0 (x : CPlace) : x.vals[0]? = some (.string (bs x.handle)) := rfl
theorem CPlace.at1 (x : CPlace) (h : 1 < x.vals.length) : x.vals[1] = .int .i64 x.gen := rfl
theorem CPlace.lat1 (x : CPlace) : x.vals[1]? = some (.int .i64 x.gen) := rfl
theorem CPlace.at2 (x : CPlace) (h : 2 < x.vals.length) : x.vals[2] = .int .i64 x.at_ := rfl
theorem CPlace.lat2 (x : CPlace) : x.vals[2]? = some (.int .i64 x.at_) := rfl
theorem CPlace.at3 (x : CPlace) (h : 3 < x.vals.length) : x.vals[3] = .string (bs x.bytes) := rfl
theorem CPlace.lat3 (x : CPlace) : x.vals[3]? = some (.string (bs x.bytes)) := rfl
theorem CPlace.sub0_4 (x : CPlace) : x.vals.toArray.extract 0 4 = x.vals.toArray := (List.extract_toArray ..).trans (congrArg List.toArray (show _ = x.vals from rfl))
theorem CPlace.lsub0_4 (x : CPlace) : x.vals.take 4 = x.vals := rfl
def CPlace.good (x : CPlace) : Prop := x.handle.length ≤ maxLen ∧ (Lit.int .i64 x.gen).wf = true ∧ (Lit.int .i64 x.at_).wf = true ∧ x.bytes.length ≤ maxLen

structure CPart where
  c : Call
  dir : Int
  to_ : Int
  put : Int
  uid : Int
  gid : Int
  deriving DecidableEq
def CPart.vals (x : CPart) : List Value := x.c.vals ++ [.int .i64 x.dir, .int .i64 x.to_, .int .i64 x.put, .int .i64 x.uid, .int .i64 x.gid]
theorem CPart.len (x : CPart) : x.vals.length = 29 := rfl
theorem CPart.one (x : CPart) : ∀ v ∈ x.vals, v.oneCell' = true := by
  intro v hv
  unfold CPart.vals at hv
  rcases List.mem_append.1 hv with hv | hv
  · exact Call.one _ v hv
  · simp only [List.mem_cons, List.not_mem_nil, or_false] at hv
    rcases hv with rfl | rfl | rfl | rfl | rfl <;> rfl
theorem CPart.at0 (x : CPart) (h : 0 < x.vals.length) : x.vals[0] = .int .i64 x.c.proc := rfl
theorem CPart.lat0 (x : CPart) : x.vals[0]? = some (.int .i64 x.c.proc) := rfl
theorem CPart.at1 (x : CPart) (h : 1 < x.vals.length) : x.vals[1] = .string (bs x.c.fh) := rfl
theorem CPart.lat1 (x : CPart) : x.vals[1]? = some (.string (bs x.c.fh)) := rfl
theorem CPart.at2 (x : CPart) (h : 2 < x.vals.length) : x.vals[2] = .string (bs x.c.name) := rfl
theorem CPart.lat2 (x : CPart) : x.vals[2]? = some (.string (bs x.c.name)) := rfl
theorem CPart.at3 (x : CPart) (h : 3 < x.vals.length) : x.vals[3] = .string (bs x.c.fh2) := rfl
theorem CPart.lat3 (x : CPart) : x.vals[3]? = some (.string (bs x.c.fh2)) := rfl
theorem CPart.at4 (x : CPart) (h : 4 < x.vals.length) : x.vals[4] = .string (bs x.c.name2) := rfl
theorem CPart.lat4 (x : CPart) : x.vals[4]? = some (.string (bs x.c.name2)) := rfl
theorem CPart.at5 (x : CPart) (h : 5 < x.vals.length) : x.vals[5] = .int .i64 x.c.offset := rfl
theorem CPart.lat5 (x : CPart) : x.vals[5]? = some (.int .i64 x.c.offset) := rfl
theorem CPart.at6 (x : CPart) (h : 6 < x.vals.length) : x.vals[6] = .int .i64 x.c.count := rfl
theorem CPart.lat6 (x : CPart) : x.vals[6]? = some (.int .i64 x.c.count) := rfl
theorem CPart.at7 (x : CPart) (h : 7 < x.vals.length) : x.vals[7] = .int .i64 x.c.how := rfl
theorem CPart.lat7 (x : CPart) : x.vals[7]? = some (.int .i64 x.c.how) := rfl
theorem CPart.at8 (x : CPart) (h : 8 < x.vals.length) : x.vals[8] = .string (bs x.c.data) := rfl
theorem CPart.lat8 (x : CPart) : x.vals[8]? = some (.string (bs x.c.data)) := rfl
theorem CPart.at9 (x : CPart) (h : 9 < x.vals.length) : x.vals[9] = .bool x.c.set.mode.is := rfl
theorem CPart.lat9 (x : CPart) : x.vals[9]? = some (.bool x.c.set.mode.is) := rfl
theorem CPart.at10 (x : CPart) (h : 10 < x.vals.length) : x.vals[10] = .int .i64 x.c.set.mode.n := rfl
theorem CPart.lat10 (x : CPart) : x.vals[10]? = some (.int .i64 x.c.set.mode.n) := rfl
theorem CPart.at11 (x : CPart) (h : 11 < x.vals.length) : x.vals[11] = .bool x.c.set.uid.is := rfl
theorem CPart.lat11 (x : CPart) : x.vals[11]? = some (.bool x.c.set.uid.is) := rfl
theorem CPart.at12 (x : CPart) (h : 12 < x.vals.length) : x.vals[12] = .int .i64 x.c.set.uid.n := rfl
theorem CPart.lat12 (x : CPart) : x.vals[12]? = some (.int .i64 x.c.set.uid.n) := rfl
theorem CPart.at13 (x : CPart) (h : 13 < x.vals.length) : x.vals[13] = .bool x.c.set.gid.is := rfl
theorem CPart.lat13 (x : CPart) : x.vals[13]? = some (.bool x.c.set.gid.is) := rfl
theorem CPart.at14 (x : CPart) (h : 14 < x.vals.length) : x.vals[14] = .int .i64 x.c.set.gid.n := rfl
theorem CPart.lat14 (x : CPart) : x.vals[14]? = some (.int .i64 x.c.set.gid.n) := rfl
theorem CPart.at15 (x : CPart) (h : 15 < x.vals.length) : x.vals[15] = .bool x.c.set.size.is := rfl
theorem CPart.lat15 (x : CPart) : x.vals[15]? = some (.bool x.c.set.size.is) := rfl
theorem CPart.at16 (x : CPart) (h : 16 < x.vals.length) : x.vals[16] = .int .i64 x.c.set.size.n := rfl
theorem CPart.lat16 (x : CPart) : x.vals[16]? = some (.int .i64 x.c.set.size.n) := rfl
theorem CPart.at17 (x : CPart) (h : 17 < x.vals.length) : x.vals[17] = .bool x.c.set.time.is := rfl
theorem CPart.lat17 (x : CPart) : x.vals[17]? = some (.bool x.c.set.time.is) := rfl
theorem CPart.at18 (x : CPart) (h : 18 < x.vals.length) : x.vals[18] = .int .i64 x.c.set.time.n := rfl
theorem CPart.lat18 (x : CPart) : x.vals[18]? = some (.int .i64 x.c.set.time.n) := rfl
theorem CPart.at19 (x : CPart) (h : 19 < x.vals.length) : x.vals[19] = .bool x.c.guard.is := rfl
theorem CPart.lat19 (x : CPart) : x.vals[19]? = some (.bool x.c.guard.is) := rfl
theorem CPart.at20 (x : CPart) (h : 20 < x.vals.length) : x.vals[20] = .int .i64 x.c.guard.n := rfl
theorem CPart.lat20 (x : CPart) : x.vals[20]? = some (.int .i64 x.c.guard.n) := rfl
theorem CPart.at21 (x : CPart) (h : 21 < x.vals.length) : x.vals[21] = .int .i64 x.c.cookie := rfl
theorem CPart.lat21 (x : CPart) : x.vals[21]? = some (.int .i64 x.c.cookie) := rfl
theorem CPart.at22 (x : CPart) (h : 22 < x.vals.length) : x.vals[22] = .int .i64 x.c.verf := rfl
theorem CPart.lat22 (x : CPart) : x.vals[22]? = some (.int .i64 x.c.verf) := rfl
theorem CPart.at23 (x : CPart) (h : 23 < x.vals.length) : x.vals[23] = .string (bs x.c.text) := rfl
theorem CPart.lat23 (x : CPart) : x.vals[23]? = some (.string (bs x.c.text)) := rfl
theorem CPart.at24 (x : CPart) (h : 24 < x.vals.length) : x.vals[24] = .int .i64 x.dir := rfl
theorem CPart.lat24 (x : CPart) : x.vals[24]? = some (.int .i64 x.dir) := rfl
theorem CPart.at25 (x : CPart) (h : 25 < x.vals.length) : x.vals[25] = .int .i64 x.to_ := rfl
theorem CPart.lat25 (x : CPart) : x.vals[25]? = some (.int .i64 x.to_) := rfl
theorem CPart.at26 (x : CPart) (h : 26 < x.vals.length) : x.vals[26] = .int .i64 x.put := rfl
theorem CPart.lat26 (x : CPart) : x.vals[26]? = some (.int .i64 x.put) := rfl
theorem CPart.at27 (x : CPart) (h : 27 < x.vals.length) : x.vals[27] = .int .i64 x.uid := rfl
theorem CPart.lat27 (x : CPart) : x.vals[27]? = some (.int .i64 x.uid) := rfl
theorem CPart.at28 (x : CPart) (h : 28 < x.vals.length) : x.vals[28] = .int .i64 x.gid := rfl
theorem CPart.lat28 (x : CPart) : x.vals[28]? = some (.int .i64 x.gid) := rfl
theorem CPart.sub0_29 (x : CPart) : x.vals.toArray.extract 0 29 = x.vals.toArray := (List.extract_toArray ..).trans (congrArg List.toArray (show _ = x.vals from rfl))
theorem CPart.lsub0_29 (x : CPart) : x.vals.take 29 = x.vals := rfl
theorem CPart.sub0_24 (x : CPart) : x.vals.toArray.extract 0 24 = x.c.vals.toArray := (List.extract_toArray ..).trans (congrArg List.toArray (show _ = x.c.vals from rfl))
theorem CPart.lsub0_24 (x : CPart) : x.vals.take 24 = x.c.vals := rfl
theorem CPart.sub9_10 (x : CPart) : x.vals.toArray.extract 9 19 = x.c.set.vals.toArray := (List.extract_toArray ..).trans (congrArg List.toArray (show _ = x.c.set.vals from rfl))
theorem CPart.lsub9_10 (x : CPart) : (x.vals.drop 9).take 10 = x.c.set.vals := rfl
theorem CPart.sub9_2 (x : CPart) : x.vals.toArray.extract 9 11 = x.c.set.mode.vals.toArray := (List.extract_toArray ..).trans (congrArg List.toArray (show _ = x.c.set.mode.vals from rfl))
theorem CPart.lsub9_2 (x : CPart) : (x.vals.drop 9).take 2 = x.c.set.mode.vals := rfl
theorem CPart.sub11_2 (x : CPart) : x.vals.toArray.extract 11 13 = x.c.set.uid.vals.toArray := (List.extract_toArray ..).trans (congrArg List.toArray (show _ = x.c.set.uid.vals from rfl))
theorem CPart.lsub11_2 (x : CPart) : (x.vals.drop 11).take 2 = x.c.set.uid.vals := rfl
theorem CPart.sub13_2 (x : CPart) : x.vals.toArray.extract 13 15 = x.c.set.gid.vals.toArray := (List.extract_toArray ..).trans (congrArg List.toArray (show _ = x.c.set.gid.vals from rfl))
theorem CPart.lsub13_2 (x : CPart) : (x.vals.drop 13).take 2 = x.c.set.gid.vals := rfl
theorem CPart.sub15_2 (x : CPart) : x.vals.toArray.extract 15 17 = x.c.set.size.vals.toArray := (List.extract_toArray ..).trans (congrArg List.toArray (show _ = x.c.set.size.vals from rfl))
theorem CPart.lsub15_2 (x : CPart) : (x.vals.drop 15).take 2 = x.c.set.size.vals := rfl
theorem CPart.sub17_2 (x : CPart) : x.vals.toArray.extract 17 19 = x.c.set.time.vals.toArray := (List.extract_toArray ..).trans (congrArg List.toArray (show _ = x.c.set.time.vals from rfl))
theorem CPart.lsub17_2 (x : CPart) : (x.vals.drop 17).take 2 = x.c.set.time.vals := rfl
theorem CPart.sub19_2 (x : CPart) : x.vals.toArray.extract 19 21 = x.c.guard.vals.toArray := (List.extract_toArray ..).trans (congrArg List.toArray (show _ = x.c.guard.vals from rfl))
theorem CPart.lsub19_2 (x : CPart) : (x.vals.drop 19).take 2 = x.c.guard.vals := rfl
def CPart.good (x : CPart) : Prop := x.c.good ∧ (Lit.int .i64 x.dir).wf = true ∧ (Lit.int .i64 x.to_).wf = true ∧ (Lit.int .i64 x.put).wf = true ∧ (Lit.int .i64 x.uid).wf = true ∧ (Lit.int .i64 x.gid).wf = true

structure Recd where
  cred : Cred
  begin_ : Int
  end_ : Int
  call : Call
  reply : Reply
def Recd.vals (x : Recd) : List Value := x.cred.vals ++ ([.int .i64 x.begin_, .int .i64 x.end_] ++ (x.call.vals ++ x.reply.vals))
theorem Recd.len (x : Recd) : x.vals.length = 88 := rfl
theorem Recd.one (x : Recd) : ∀ v ∈ x.vals, v.oneCell' = true := by
  intro v hv
  unfold Recd.vals at hv
  rcases List.mem_append.1 hv with hv | hv
  · exact Cred.one _ v hv
  · rcases List.mem_append.1 hv with hv | hv
    · simp only [List.mem_cons, List.not_mem_nil, or_false] at hv
      rcases hv with rfl | rfl <;> rfl
    · rcases List.mem_append.1 hv with hv | hv
      · exact Call.one _ v hv
      · exact Reply.one _ v hv
theorem Recd.at0 (x : Recd) (h : 0 < x.vals.length) : x.vals[0] = .int .i64 x.cred.client := rfl
theorem Recd.lat0 (x : Recd) : x.vals[0]? = some (.int .i64 x.cred.client) := rfl
theorem Recd.at1 (x : Recd) (h : 1 < x.vals.length) : x.vals[1] = .int .i64 x.cred.seq := rfl
theorem Recd.lat1 (x : Recd) : x.vals[1]? = some (.int .i64 x.cred.seq) := rfl
theorem Recd.at2 (x : Recd) (h : 2 < x.vals.length) : x.vals[2] = .int .i64 x.cred.uid := rfl
theorem Recd.lat2 (x : Recd) : x.vals[2]? = some (.int .i64 x.cred.uid) := rfl
theorem Recd.at3 (x : Recd) (h : 3 < x.vals.length) : x.vals[3] = .int .i64 x.cred.gid := rfl
theorem Recd.lat3 (x : Recd) : x.vals[3]? = some (.int .i64 x.cred.gid) := rfl
theorem Recd.at4 (x : Recd) (h : 4 < x.vals.length) : x.vals[4] = .int .i64 x.begin_ := rfl
theorem Recd.lat4 (x : Recd) : x.vals[4]? = some (.int .i64 x.begin_) := rfl
theorem Recd.at5 (x : Recd) (h : 5 < x.vals.length) : x.vals[5] = .int .i64 x.end_ := rfl
theorem Recd.lat5 (x : Recd) : x.vals[5]? = some (.int .i64 x.end_) := rfl
theorem Recd.at6 (x : Recd) (h : 6 < x.vals.length) : x.vals[6] = .int .i64 x.call.proc := rfl
theorem Recd.lat6 (x : Recd) : x.vals[6]? = some (.int .i64 x.call.proc) := rfl
theorem Recd.at7 (x : Recd) (h : 7 < x.vals.length) : x.vals[7] = .string (bs x.call.fh) := rfl
theorem Recd.lat7 (x : Recd) : x.vals[7]? = some (.string (bs x.call.fh)) := rfl
theorem Recd.at8 (x : Recd) (h : 8 < x.vals.length) : x.vals[8] = .string (bs x.call.name) := rfl
theorem Recd.lat8 (x : Recd) : x.vals[8]? = some (.string (bs x.call.name)) := rfl
theorem Recd.at9 (x : Recd) (h : 9 < x.vals.length) : x.vals[9] = .string (bs x.call.fh2) := rfl
theorem Recd.lat9 (x : Recd) : x.vals[9]? = some (.string (bs x.call.fh2)) := rfl
theorem Recd.at10 (x : Recd) (h : 10 < x.vals.length) : x.vals[10] = .string (bs x.call.name2) := rfl
theorem Recd.lat10 (x : Recd) : x.vals[10]? = some (.string (bs x.call.name2)) := rfl
theorem Recd.at11 (x : Recd) (h : 11 < x.vals.length) : x.vals[11] = .int .i64 x.call.offset := rfl
theorem Recd.lat11 (x : Recd) : x.vals[11]? = some (.int .i64 x.call.offset) := rfl
theorem Recd.at12 (x : Recd) (h : 12 < x.vals.length) : x.vals[12] = .int .i64 x.call.count := rfl
theorem Recd.lat12 (x : Recd) : x.vals[12]? = some (.int .i64 x.call.count) := rfl
theorem Recd.at13 (x : Recd) (h : 13 < x.vals.length) : x.vals[13] = .int .i64 x.call.how := rfl
theorem Recd.lat13 (x : Recd) : x.vals[13]? = some (.int .i64 x.call.how) := rfl
theorem Recd.at14 (x : Recd) (h : 14 < x.vals.length) : x.vals[14] = .string (bs x.call.data) := rfl
theorem Recd.lat14 (x : Recd) : x.vals[14]? = some (.string (bs x.call.data)) := rfl
theorem Recd.at15 (x : Recd) (h : 15 < x.vals.length) : x.vals[15] = .bool x.call.set.mode.is := rfl
theorem Recd.lat15 (x : Recd) : x.vals[15]? = some (.bool x.call.set.mode.is) := rfl
theorem Recd.at16 (x : Recd) (h : 16 < x.vals.length) : x.vals[16] = .int .i64 x.call.set.mode.n := rfl
theorem Recd.lat16 (x : Recd) : x.vals[16]? = some (.int .i64 x.call.set.mode.n) := rfl
theorem Recd.at17 (x : Recd) (h : 17 < x.vals.length) : x.vals[17] = .bool x.call.set.uid.is := rfl
theorem Recd.lat17 (x : Recd) : x.vals[17]? = some (.bool x.call.set.uid.is) := rfl
theorem Recd.at18 (x : Recd) (h : 18 < x.vals.length) : x.vals[18] = .int .i64 x.call.set.uid.n := rfl
theorem Recd.lat18 (x : Recd) : x.vals[18]? = some (.int .i64 x.call.set.uid.n) := rfl
theorem Recd.at19 (x : Recd) (h : 19 < x.vals.length) : x.vals[19] = .bool x.call.set.gid.is := rfl
theorem Recd.lat19 (x : Recd) : x.vals[19]? = some (.bool x.call.set.gid.is) := rfl
theorem Recd.at20 (x : Recd) (h : 20 < x.vals.length) : x.vals[20] = .int .i64 x.call.set.gid.n := rfl
theorem Recd.lat20 (x : Recd) : x.vals[20]? = some (.int .i64 x.call.set.gid.n) := rfl
theorem Recd.at21 (x : Recd) (h : 21 < x.vals.length) : x.vals[21] = .bool x.call.set.size.is := rfl
theorem Recd.lat21 (x : Recd) : x.vals[21]? = some (.bool x.call.set.size.is) := rfl
theorem Recd.at22 (x : Recd) (h : 22 < x.vals.length) : x.vals[22] = .int .i64 x.call.set.size.n := rfl
theorem Recd.lat22 (x : Recd) : x.vals[22]? = some (.int .i64 x.call.set.size.n) := rfl
theorem Recd.at23 (x : Recd) (h : 23 < x.vals.length) : x.vals[23] = .bool x.call.set.time.is := rfl
theorem Recd.lat23 (x : Recd) : x.vals[23]? = some (.bool x.call.set.time.is) := rfl
theorem Recd.at24 (x : Recd) (h : 24 < x.vals.length) : x.vals[24] = .int .i64 x.call.set.time.n := rfl
theorem Recd.lat24 (x : Recd) : x.vals[24]? = some (.int .i64 x.call.set.time.n) := rfl
theorem Recd.at25 (x : Recd) (h : 25 < x.vals.length) : x.vals[25] = .bool x.call.guard.is := rfl
theorem Recd.lat25 (x : Recd) : x.vals[25]? = some (.bool x.call.guard.is) := rfl
theorem Recd.at26 (x : Recd) (h : 26 < x.vals.length) : x.vals[26] = .int .i64 x.call.guard.n := rfl
theorem Recd.lat26 (x : Recd) : x.vals[26]? = some (.int .i64 x.call.guard.n) := rfl
theorem Recd.at27 (x : Recd) (h : 27 < x.vals.length) : x.vals[27] = .int .i64 x.call.cookie := rfl
theorem Recd.lat27 (x : Recd) : x.vals[27]? = some (.int .i64 x.call.cookie) := rfl
theorem Recd.at28 (x : Recd) (h : 28 < x.vals.length) : x.vals[28] = .int .i64 x.call.verf := rfl
theorem Recd.lat28 (x : Recd) : x.vals[28]? = some (.int .i64 x.call.verf) := rfl
theorem Recd.at29 (x : Recd) (h : 29 < x.vals.length) : x.vals[29] = .string (bs x.call.text) := rfl
theorem Recd.lat29 (x : Recd) : x.vals[29]? = some (.string (bs x.call.text)) := rfl
theorem Recd.at30 (x : Recd) (h : 30 < x.vals.length) : x.vals[30] = .int .i64 x.reply.status := rfl
theorem Recd.lat30 (x : Recd) : x.vals[30]? = some (.int .i64 x.reply.status) := rfl
theorem Recd.at31 (x : Recd) (h : 31 < x.vals.length) : x.vals[31] = .string (bs x.reply.fh) := rfl
theorem Recd.lat31 (x : Recd) : x.vals[31]? = some (.string (bs x.reply.fh)) := rfl
theorem Recd.at32 (x : Recd) (h : 32 < x.vals.length) : x.vals[32] = .bool x.reply.obj.is := rfl
theorem Recd.lat32 (x : Recd) : x.vals[32]? = some (.bool x.reply.obj.is) := rfl
theorem Recd.at33 (x : Recd) (h : 33 < x.vals.length) : x.vals[33] = .int .i64 x.reply.obj.attr.type := rfl
theorem Recd.lat33 (x : Recd) : x.vals[33]? = some (.int .i64 x.reply.obj.attr.type) := rfl
theorem Recd.at34 (x : Recd) (h : 34 < x.vals.length) : x.vals[34] = .int .i64 x.reply.obj.attr.mode := rfl
theorem Recd.lat34 (x : Recd) : x.vals[34]? = some (.int .i64 x.reply.obj.attr.mode) := rfl
theorem Recd.at35 (x : Recd) (h : 35 < x.vals.length) : x.vals[35] = .int .i64 x.reply.obj.attr.nlink := rfl
theorem Recd.lat35 (x : Recd) : x.vals[35]? = some (.int .i64 x.reply.obj.attr.nlink) := rfl
theorem Recd.at36 (x : Recd) (h : 36 < x.vals.length) : x.vals[36] = .int .i64 x.reply.obj.attr.uid := rfl
theorem Recd.lat36 (x : Recd) : x.vals[36]? = some (.int .i64 x.reply.obj.attr.uid) := rfl
theorem Recd.at37 (x : Recd) (h : 37 < x.vals.length) : x.vals[37] = .int .i64 x.reply.obj.attr.gid := rfl
theorem Recd.lat37 (x : Recd) : x.vals[37]? = some (.int .i64 x.reply.obj.attr.gid) := rfl
theorem Recd.at38 (x : Recd) (h : 38 < x.vals.length) : x.vals[38] = .int .i64 x.reply.obj.attr.size := rfl
theorem Recd.lat38 (x : Recd) : x.vals[38]? = some (.int .i64 x.reply.obj.attr.size) := rfl
theorem Recd.at39 (x : Recd) (h : 39 < x.vals.length) : x.vals[39] = .int .i64 x.reply.obj.attr.id := rfl
theorem Recd.lat39 (x : Recd) : x.vals[39]? = some (.int .i64 x.reply.obj.attr.id) := rfl
theorem Recd.at40 (x : Recd) (h : 40 < x.vals.length) : x.vals[40] = .int .i64 x.reply.obj.attr.gen := rfl
theorem Recd.lat40 (x : Recd) : x.vals[40]? = some (.int .i64 x.reply.obj.attr.gen) := rfl
theorem Recd.at41 (x : Recd) (h : 41 < x.vals.length) : x.vals[41] = .int .i64 x.reply.obj.attr.change := rfl
theorem Recd.lat41 (x : Recd) : x.vals[41]? = some (.int .i64 x.reply.obj.attr.change) := rfl
theorem Recd.at42 (x : Recd) (h : 42 < x.vals.length) : x.vals[42] = .int .i64 x.reply.obj.attr.time := rfl
theorem Recd.lat42 (x : Recd) : x.vals[42]? = some (.int .i64 x.reply.obj.attr.time) := rfl
theorem Recd.at43 (x : Recd) (h : 43 < x.vals.length) : x.vals[43] = .bool x.reply.dir.is := rfl
theorem Recd.lat43 (x : Recd) : x.vals[43]? = some (.bool x.reply.dir.is) := rfl
theorem Recd.at44 (x : Recd) (h : 44 < x.vals.length) : x.vals[44] = .int .i64 x.reply.dir.attr.type := rfl
theorem Recd.lat44 (x : Recd) : x.vals[44]? = some (.int .i64 x.reply.dir.attr.type) := rfl
theorem Recd.at45 (x : Recd) (h : 45 < x.vals.length) : x.vals[45] = .int .i64 x.reply.dir.attr.mode := rfl
theorem Recd.lat45 (x : Recd) : x.vals[45]? = some (.int .i64 x.reply.dir.attr.mode) := rfl
theorem Recd.at46 (x : Recd) (h : 46 < x.vals.length) : x.vals[46] = .int .i64 x.reply.dir.attr.nlink := rfl
theorem Recd.lat46 (x : Recd) : x.vals[46]? = some (.int .i64 x.reply.dir.attr.nlink) := rfl
theorem Recd.at47 (x : Recd) (h : 47 < x.vals.length) : x.vals[47] = .int .i64 x.reply.dir.attr.uid := rfl
theorem Recd.lat47 (x : Recd) : x.vals[47]? = some (.int .i64 x.reply.dir.attr.uid) := rfl
theorem Recd.at48 (x : Recd) (h : 48 < x.vals.length) : x.vals[48] = .int .i64 x.reply.dir.attr.gid := rfl
theorem Recd.lat48 (x : Recd) : x.vals[48]? = some (.int .i64 x.reply.dir.attr.gid) := rfl
theorem Recd.at49 (x : Recd) (h : 49 < x.vals.length) : x.vals[49] = .int .i64 x.reply.dir.attr.size := rfl
theorem Recd.lat49 (x : Recd) : x.vals[49]? = some (.int .i64 x.reply.dir.attr.size) := rfl
theorem Recd.at50 (x : Recd) (h : 50 < x.vals.length) : x.vals[50] = .int .i64 x.reply.dir.attr.id := rfl
theorem Recd.lat50 (x : Recd) : x.vals[50]? = some (.int .i64 x.reply.dir.attr.id) := rfl
theorem Recd.at51 (x : Recd) (h : 51 < x.vals.length) : x.vals[51] = .int .i64 x.reply.dir.attr.gen := rfl
theorem Recd.lat51 (x : Recd) : x.vals[51]? = some (.int .i64 x.reply.dir.attr.gen) := rfl
theorem Recd.at52 (x : Recd) (h : 52 < x.vals.length) : x.vals[52] = .int .i64 x.reply.dir.attr.change := rfl
theorem Recd.lat52 (x : Recd) : x.vals[52]? = some (.int .i64 x.reply.dir.attr.change) := rfl
theorem Recd.at53 (x : Recd) (h : 53 < x.vals.length) : x.vals[53] = .int .i64 x.reply.dir.attr.time := rfl
theorem Recd.lat53 (x : Recd) : x.vals[53]? = some (.int .i64 x.reply.dir.attr.time) := rfl
theorem Recd.at54 (x : Recd) (h : 54 < x.vals.length) : x.vals[54] = .bool x.reply.wcc.before.is := rfl
theorem Recd.lat54 (x : Recd) : x.vals[54]? = some (.bool x.reply.wcc.before.is) := rfl
theorem Recd.at55 (x : Recd) (h : 55 < x.vals.length) : x.vals[55] = .int .i64 x.reply.wcc.before.n := rfl
theorem Recd.lat55 (x : Recd) : x.vals[55]? = some (.int .i64 x.reply.wcc.before.n) := rfl
theorem Recd.at56 (x : Recd) (h : 56 < x.vals.length) : x.vals[56] = .bool x.reply.wcc.after.is := rfl
theorem Recd.lat56 (x : Recd) : x.vals[56]? = some (.bool x.reply.wcc.after.is) := rfl
theorem Recd.at57 (x : Recd) (h : 57 < x.vals.length) : x.vals[57] = .int .i64 x.reply.wcc.after.attr.type := rfl
theorem Recd.lat57 (x : Recd) : x.vals[57]? = some (.int .i64 x.reply.wcc.after.attr.type) := rfl
theorem Recd.at58 (x : Recd) (h : 58 < x.vals.length) : x.vals[58] = .int .i64 x.reply.wcc.after.attr.mode := rfl
theorem Recd.lat58 (x : Recd) : x.vals[58]? = some (.int .i64 x.reply.wcc.after.attr.mode) := rfl
theorem Recd.at59 (x : Recd) (h : 59 < x.vals.length) : x.vals[59] = .int .i64 x.reply.wcc.after.attr.nlink := rfl
theorem Recd.lat59 (x : Recd) : x.vals[59]? = some (.int .i64 x.reply.wcc.after.attr.nlink) := rfl
theorem Recd.at60 (x : Recd) (h : 60 < x.vals.length) : x.vals[60] = .int .i64 x.reply.wcc.after.attr.uid := rfl
theorem Recd.lat60 (x : Recd) : x.vals[60]? = some (.int .i64 x.reply.wcc.after.attr.uid) := rfl
theorem Recd.at61 (x : Recd) (h : 61 < x.vals.length) : x.vals[61] = .int .i64 x.reply.wcc.after.attr.gid := rfl
theorem Recd.lat61 (x : Recd) : x.vals[61]? = some (.int .i64 x.reply.wcc.after.attr.gid) := rfl
theorem Recd.at62 (x : Recd) (h : 62 < x.vals.length) : x.vals[62] = .int .i64 x.reply.wcc.after.attr.size := rfl
theorem Recd.lat62 (x : Recd) : x.vals[62]? = some (.int .i64 x.reply.wcc.after.attr.size) := rfl
theorem Recd.at63 (x : Recd) (h : 63 < x.vals.length) : x.vals[63] = .int .i64 x.reply.wcc.after.attr.id := rfl
theorem Recd.lat63 (x : Recd) : x.vals[63]? = some (.int .i64 x.reply.wcc.after.attr.id) := rfl
theorem Recd.at64 (x : Recd) (h : 64 < x.vals.length) : x.vals[64] = .int .i64 x.reply.wcc.after.attr.gen := rfl
theorem Recd.lat64 (x : Recd) : x.vals[64]? = some (.int .i64 x.reply.wcc.after.attr.gen) := rfl
theorem Recd.at65 (x : Recd) (h : 65 < x.vals.length) : x.vals[65] = .int .i64 x.reply.wcc.after.attr.change := rfl
theorem Recd.lat65 (x : Recd) : x.vals[65]? = some (.int .i64 x.reply.wcc.after.attr.change) := rfl
theorem Recd.at66 (x : Recd) (h : 66 < x.vals.length) : x.vals[66] = .int .i64 x.reply.wcc.after.attr.time := rfl
theorem Recd.lat66 (x : Recd) : x.vals[66]? = some (.int .i64 x.reply.wcc.after.attr.time) := rfl
theorem Recd.at67 (x : Recd) (h : 67 < x.vals.length) : x.vals[67] = .bool x.reply.wcc2.before.is := rfl
theorem Recd.lat67 (x : Recd) : x.vals[67]? = some (.bool x.reply.wcc2.before.is) := rfl
theorem Recd.at68 (x : Recd) (h : 68 < x.vals.length) : x.vals[68] = .int .i64 x.reply.wcc2.before.n := rfl
theorem Recd.lat68 (x : Recd) : x.vals[68]? = some (.int .i64 x.reply.wcc2.before.n) := rfl
theorem Recd.at69 (x : Recd) (h : 69 < x.vals.length) : x.vals[69] = .bool x.reply.wcc2.after.is := rfl
theorem Recd.lat69 (x : Recd) : x.vals[69]? = some (.bool x.reply.wcc2.after.is) := rfl
theorem Recd.at70 (x : Recd) (h : 70 < x.vals.length) : x.vals[70] = .int .i64 x.reply.wcc2.after.attr.type := rfl
theorem Recd.lat70 (x : Recd) : x.vals[70]? = some (.int .i64 x.reply.wcc2.after.attr.type) := rfl
theorem Recd.at71 (x : Recd) (h : 71 < x.vals.length) : x.vals[71] = .int .i64 x.reply.wcc2.after.attr.mode := rfl
theorem Recd.lat71 (x : Recd) : x.vals[71]? = some (.int .i64 x.reply.wcc2.after.attr.mode) := rfl
theorem Recd.at72 (x : Recd) (h : 72 < x.vals.length) : x.vals[72] = .int .i64 x.reply.wcc2.after.attr.nlink := rfl
theorem Recd.lat72 (x : Recd) : x.vals[72]? = some (.int .i64 x.reply.wcc2.after.attr.nlink) := rfl
theorem Recd.at73 (x : Recd) (h : 73 < x.vals.length) : x.vals[73] = .int .i64 x.reply.wcc2.after.attr.uid := rfl
theorem Recd.lat73 (x : Recd) : x.vals[73]? = some (.int .i64 x.reply.wcc2.after.attr.uid) := rfl
theorem Recd.at74 (x : Recd) (h : 74 < x.vals.length) : x.vals[74] = .int .i64 x.reply.wcc2.after.attr.gid := rfl
theorem Recd.lat74 (x : Recd) : x.vals[74]? = some (.int .i64 x.reply.wcc2.after.attr.gid) := rfl
theorem Recd.at75 (x : Recd) (h : 75 < x.vals.length) : x.vals[75] = .int .i64 x.reply.wcc2.after.attr.size := rfl
theorem Recd.lat75 (x : Recd) : x.vals[75]? = some (.int .i64 x.reply.wcc2.after.attr.size) := rfl
theorem Recd.at76 (x : Recd) (h : 76 < x.vals.length) : x.vals[76] = .int .i64 x.reply.wcc2.after.attr.id := rfl
theorem Recd.lat76 (x : Recd) : x.vals[76]? = some (.int .i64 x.reply.wcc2.after.attr.id) := rfl
theorem Recd.at77 (x : Recd) (h : 77 < x.vals.length) : x.vals[77] = .int .i64 x.reply.wcc2.after.attr.gen := rfl
theorem Recd.lat77 (x : Recd) : x.vals[77]? = some (.int .i64 x.reply.wcc2.after.attr.gen) := rfl
theorem Recd.at78 (x : Recd) (h : 78 < x.vals.length) : x.vals[78] = .int .i64 x.reply.wcc2.after.attr.change := rfl
theorem Recd.lat78 (x : Recd) : x.vals[78]? = some (.int .i64 x.reply.wcc2.after.attr.change) := rfl
theorem Recd.at79 (x : Recd) (h : 79 < x.vals.length) : x.vals[79] = .int .i64 x.reply.wcc2.after.attr.time := rfl
theorem Recd.lat79 (x : Recd) : x.vals[79]? = some (.int .i64 x.reply.wcc2.after.attr.time) := rfl
theorem Recd.at80 (x : Recd) (h : 80 < x.vals.length) : x.vals[80] = .int .i64 x.reply.access := rfl
theorem Recd.lat80 (x : Recd) : x.vals[80]? = some (.int .i64 x.reply.access) := rfl
theorem Recd.at81 (x : Recd) (h : 81 < x.vals.length) : x.vals[81] = .int .i64 x.reply.count := rfl
theorem Recd.lat81 (x : Recd) : x.vals[81]? = some (.int .i64 x.reply.count) := rfl
theorem Recd.at82 (x : Recd) (h : 82 < x.vals.length) : x.vals[82] = .bool x.reply.eof := rfl
theorem Recd.lat82 (x : Recd) : x.vals[82]? = some (.bool x.reply.eof) := rfl
theorem Recd.at83 (x : Recd) (h : 83 < x.vals.length) : x.vals[83] = .string (bs x.reply.data) := rfl
theorem Recd.lat83 (x : Recd) : x.vals[83]? = some (.string (bs x.reply.data)) := rfl
theorem Recd.at84 (x : Recd) (h : 84 < x.vals.length) : x.vals[84] = .int .i64 x.reply.stable := rfl
theorem Recd.lat84 (x : Recd) : x.vals[84]? = some (.int .i64 x.reply.stable) := rfl
theorem Recd.at85 (x : Recd) (h : 85 < x.vals.length) : x.vals[85] = .int .i64 x.reply.verf := rfl
theorem Recd.lat85 (x : Recd) : x.vals[85]? = some (.int .i64 x.reply.verf) := rfl
theorem Recd.at86 (x : Recd) (h : 86 < x.vals.length) : x.vals[86] = .slice x.reply.ea x.reply.en x.reply.ec := rfl
theorem Recd.lat86 (x : Recd) : x.vals[86]? = some (.slice x.reply.ea x.reply.en x.reply.ec) := rfl
theorem Recd.at87 (x : Recd) (h : 87 < x.vals.length) : x.vals[87] = .slice x.reply.ua x.reply.un x.reply.uc := rfl
theorem Recd.lat87 (x : Recd) : x.vals[87]? = some (.slice x.reply.ua x.reply.un x.reply.uc) := rfl
theorem Recd.sub0_88 (x : Recd) : x.vals.toArray.extract 0 88 = x.vals.toArray := (List.extract_toArray ..).trans (congrArg List.toArray (show _ = x.vals from rfl))
theorem Recd.lsub0_88 (x : Recd) : x.vals.take 88 = x.vals := rfl
theorem Recd.sub0_4 (x : Recd) : x.vals.toArray.extract 0 4 = x.cred.vals.toArray := (List.extract_toArray ..).trans (congrArg List.toArray (show _ = x.cred.vals from rfl))
theorem Recd.lsub0_4 (x : Recd) : x.vals.take 4 = x.cred.vals := rfl
theorem Recd.sub6_24 (x : Recd) : x.vals.toArray.extract 6 30 = x.call.vals.toArray := (List.extract_toArray ..).trans (congrArg List.toArray (show _ = x.call.vals from rfl))
theorem Recd.lsub6_24 (x : Recd) : (x.vals.drop 6).take 24 = x.call.vals := rfl
theorem Recd.sub15_10 (x : Recd) : x.vals.toArray.extract 15 25 = x.call.set.vals.toArray := (List.extract_toArray ..).trans (congrArg List.toArray (show _ = x.call.set.vals from rfl))
theorem Recd.lsub15_10 (x : Recd) : (x.vals.drop 15).take 10 = x.call.set.vals := rfl
theorem Recd.sub15_2 (x : Recd) : x.vals.toArray.extract 15 17 = x.call.set.mode.vals.toArray := (List.extract_toArray ..).trans (congrArg List.toArray (show _ = x.call.set.mode.vals from rfl))
theorem Recd.lsub15_2 (x : Recd) : (x.vals.drop 15).take 2 = x.call.set.mode.vals := rfl
theorem Recd.sub17_2 (x : Recd) : x.vals.toArray.extract 17 19 = x.call.set.uid.vals.toArray := (List.extract_toArray ..).trans (congrArg List.toArray (show _ = x.call.set.uid.vals from rfl))
theorem Recd.lsub17_2 (x : Recd) : (x.vals.drop 17).take 2 = x.call.set.uid.vals := rfl
theorem Recd.sub19_2 (x : Recd) : x.vals.toArray.extract 19 21 = x.call.set.gid.vals.toArray := (List.extract_toArray ..).trans (congrArg List.toArray (show _ = x.call.set.gid.vals from rfl))
theorem Recd.lsub19_2 (x : Recd) : (x.vals.drop 19).take 2 = x.call.set.gid.vals := rfl
theorem Recd.sub21_2 (x : Recd) : x.vals.toArray.extract 21 23 = x.call.set.size.vals.toArray := (List.extract_toArray ..).trans (congrArg List.toArray (show _ = x.call.set.size.vals from rfl))
theorem Recd.lsub21_2 (x : Recd) : (x.vals.drop 21).take 2 = x.call.set.size.vals := rfl
theorem Recd.sub23_2 (x : Recd) : x.vals.toArray.extract 23 25 = x.call.set.time.vals.toArray := (List.extract_toArray ..).trans (congrArg List.toArray (show _ = x.call.set.time.vals from rfl))
theorem Recd.lsub23_2 (x : Recd) : (x.vals.drop 23).take 2 = x.call.set.time.vals := rfl
theorem Recd.sub25_2 (x : Recd) : x.vals.toArray.extract 25 27 = x.call.guard.vals.toArray := (List.extract_toArray ..).trans (congrArg List.toArray (show _ = x.call.guard.vals from rfl))
theorem Recd.lsub25_2 (x : Recd) : (x.vals.drop 25).take 2 = x.call.guard.vals := rfl
theorem Recd.sub30_58 (x : Recd) : x.vals.toArray.extract 30 88 = x.reply.vals.toArray := (List.extract_toArray ..).trans (congrArg List.toArray (show _ = x.reply.vals from rfl))
theorem Recd.lsub30_58 (x : Recd) : (x.vals.drop 30).take 58 = x.reply.vals := rfl
theorem Recd.sub32_11 (x : Recd) : x.vals.toArray.extract 32 43 = x.reply.obj.vals.toArray := (List.extract_toArray ..).trans (congrArg List.toArray (show _ = x.reply.obj.vals from rfl))
theorem Recd.lsub32_11 (x : Recd) : (x.vals.drop 32).take 11 = x.reply.obj.vals := rfl
theorem Recd.sub33_10 (x : Recd) : x.vals.toArray.extract 33 43 = x.reply.obj.attr.vals.toArray := (List.extract_toArray ..).trans (congrArg List.toArray (show _ = x.reply.obj.attr.vals from rfl))
theorem Recd.lsub33_10 (x : Recd) : (x.vals.drop 33).take 10 = x.reply.obj.attr.vals := rfl
theorem Recd.sub43_11 (x : Recd) : x.vals.toArray.extract 43 54 = x.reply.dir.vals.toArray := (List.extract_toArray ..).trans (congrArg List.toArray (show _ = x.reply.dir.vals from rfl))
theorem Recd.lsub43_11 (x : Recd) : (x.vals.drop 43).take 11 = x.reply.dir.vals := rfl
theorem Recd.sub44_10 (x : Recd) : x.vals.toArray.extract 44 54 = x.reply.dir.attr.vals.toArray := (List.extract_toArray ..).trans (congrArg List.toArray (show _ = x.reply.dir.attr.vals from rfl))
theorem Recd.lsub44_10 (x : Recd) : (x.vals.drop 44).take 10 = x.reply.dir.attr.vals := rfl
theorem Recd.sub54_13 (x : Recd) : x.vals.toArray.extract 54 67 = x.reply.wcc.vals.toArray := (List.extract_toArray ..).trans (congrArg List.toArray (show _ = x.reply.wcc.vals from rfl))
theorem Recd.lsub54_13 (x : Recd) : (x.vals.drop 54).take 13 = x.reply.wcc.vals := rfl
theorem Recd.sub54_2 (x : Recd) : x.vals.toArray.extract 54 56 = x.reply.wcc.before.vals.toArray := (List.extract_toArray ..).trans (congrArg List.toArray (show _ = x.reply.wcc.before.vals from rfl))
theorem Recd.lsub54_2 (x : Recd) : (x.vals.drop 54).take 2 = x.reply.wcc.before.vals := rfl
theorem Recd.sub56_11 (x : Recd) : x.vals.toArray.extract 56 67 = x.reply.wcc.after.vals.toArray := (List.extract_toArray ..).trans (congrArg List.toArray (show _ = x.reply.wcc.after.vals from rfl))
theorem Recd.lsub56_11 (x : Recd) : (x.vals.drop 56).take 11 = x.reply.wcc.after.vals := rfl
theorem Recd.sub57_10 (x : Recd) : x.vals.toArray.extract 57 67 = x.reply.wcc.after.attr.vals.toArray := (List.extract_toArray ..).trans (congrArg List.toArray (show _ = x.reply.wcc.after.attr.vals from rfl))
theorem Recd.lsub57_10 (x : Recd) : (x.vals.drop 57).take 10 = x.reply.wcc.after.attr.vals := rfl
theorem Recd.sub67_13 (x : Recd) : x.vals.toArray.extract 67 80 = x.reply.wcc2.vals.toArray := (List.extract_toArray ..).trans (congrArg List.toArray (show _ = x.reply.wcc2.vals from rfl))
theorem Recd.lsub67_13 (x : Recd) : (x.vals.drop 67).take 13 = x.reply.wcc2.vals := rfl
theorem Recd.sub67_2 (x : Recd) : x.vals.toArray.extract 67 69 = x.reply.wcc2.before.vals.toArray := (List.extract_toArray ..).trans (congrArg List.toArray (show _ = x.reply.wcc2.before.vals from rfl))
theorem Recd.lsub67_2 (x : Recd) : (x.vals.drop 67).take 2 = x.reply.wcc2.before.vals := rfl
theorem Recd.sub69_11 (x : Recd) : x.vals.toArray.extract 69 80 = x.reply.wcc2.after.vals.toArray := (List.extract_toArray ..).trans (congrArg List.toArray (show _ = x.reply.wcc2.after.vals from rfl))
theorem Recd.lsub69_11 (x : Recd) : (x.vals.drop 69).take 11 = x.reply.wcc2.after.vals := rfl
theorem Recd.sub70_10 (x : Recd) : x.vals.toArray.extract 70 80 = x.reply.wcc2.after.attr.vals.toArray := (List.extract_toArray ..).trans (congrArg List.toArray (show _ = x.reply.wcc2.after.attr.vals from rfl))
theorem Recd.lsub70_10 (x : Recd) : (x.vals.drop 70).take 10 = x.reply.wcc2.after.attr.vals := rfl
def Recd.good (x : Recd) : Prop := x.cred.good ∧ (Lit.int .i64 x.begin_).wf = true ∧ (Lit.int .i64 x.end_).wf = true ∧ x.call.good ∧ x.reply.good

structure Clnt where
  id : Int
  self : Int
  server : Int
  p0 : CPlace
  p1 : CPlace
  p2 : CPlace
  p3 : CPlace
  ta : Option Addr
  tn : Nat
  tc : Nat
  now : CPart
  busy : Bool
  sent : Packet
  due : Int
  made : Int
  ra : Option Addr
  rn : Nat
  rc : Nat
def Clnt.vals (x : Clnt) : List Value := [.int .i64 x.id, .int .i64 x.self, .int .i64 x.server] ++ (x.p0.vals ++ (x.p1.vals ++ (x.p2.vals ++ (x.p3.vals ++ ([.slice x.ta x.tn x.tc] ++ (x.now.vals ++ ([.bool x.busy] ++ (x.sent.vals ++ [.int .i64 x.due, .int .i64 x.made, .slice x.ra x.rn x.rc]))))))))
theorem Clnt.len (x : Clnt) : x.vals.length = 56 := rfl
theorem Clnt.one (x : Clnt) : ∀ v ∈ x.vals, v.oneCell' = true := by
  intro v hv
  unfold Clnt.vals at hv
  rcases List.mem_append.1 hv with hv | hv
  · simp only [List.mem_cons, List.not_mem_nil, or_false] at hv
    rcases hv with rfl | rfl | rfl <;> rfl
  · rcases List.mem_append.1 hv with hv | hv
    · exact CPlace.one _ v hv
    · rcases List.mem_append.1 hv with hv | hv
      · exact CPlace.one _ v hv
      · rcases List.mem_append.1 hv with hv | hv
        · exact CPlace.one _ v hv
        · rcases List.mem_append.1 hv with hv | hv
          · exact CPlace.one _ v hv
          · rcases List.mem_append.1 hv with hv | hv
            · simp only [List.mem_cons, List.not_mem_nil, or_false] at hv
              subst hv; rfl
            · rcases List.mem_append.1 hv with hv | hv
              · exact CPart.one _ v hv
              · rcases List.mem_append.1 hv with hv | hv
                · simp only [List.mem_cons, List.not_mem_nil, or_false] at hv
                  subst hv; rfl
                · rcases List.mem_append.1 hv with hv | hv
                  · exact Packet.one _ v hv
                  · simp only [List.mem_cons, List.not_mem_nil, or_false] at hv
                    rcases hv with rfl | rfl | rfl <;> rfl
theorem Clnt.at0 (x : Clnt) (h : 0 < x.vals.length) : x.vals[0] = .int .i64 x.id := rfl
theorem Clnt.lat0 (x : Clnt) : x.vals[0]? = some (.int .i64 x.id) := rfl
theorem Clnt.at1 (x : Clnt) (h : 1 < x.vals.length) : x.vals[1] = .int .i64 x.self := rfl
theorem Clnt.lat1 (x : Clnt) : x.vals[1]? = some (.int .i64 x.self) := rfl
theorem Clnt.at2 (x : Clnt) (h : 2 < x.vals.length) : x.vals[2] = .int .i64 x.server := rfl
theorem Clnt.lat2 (x : Clnt) : x.vals[2]? = some (.int .i64 x.server) := rfl
theorem Clnt.at3 (x : Clnt) (h : 3 < x.vals.length) : x.vals[3] = .string (bs x.p0.handle) := rfl
theorem Clnt.lat3 (x : Clnt) : x.vals[3]? = some (.string (bs x.p0.handle)) := rfl
theorem Clnt.at4 (x : Clnt) (h : 4 < x.vals.length) : x.vals[4] = .int .i64 x.p0.gen := rfl
theorem Clnt.lat4 (x : Clnt) : x.vals[4]? = some (.int .i64 x.p0.gen) := rfl
theorem Clnt.at5 (x : Clnt) (h : 5 < x.vals.length) : x.vals[5] = .int .i64 x.p0.at_ := rfl
theorem Clnt.lat5 (x : Clnt) : x.vals[5]? = some (.int .i64 x.p0.at_) := rfl
theorem Clnt.at6 (x : Clnt) (h : 6 < x.vals.length) : x.vals[6] = .string (bs x.p0.bytes) := rfl
theorem Clnt.lat6 (x : Clnt) : x.vals[6]? = some (.string (bs x.p0.bytes)) := rfl
theorem Clnt.at7 (x : Clnt) (h : 7 < x.vals.length) : x.vals[7] = .string (bs x.p1.handle) := rfl
theorem Clnt.lat7 (x : Clnt) : x.vals[7]? = some (.string (bs x.p1.handle)) := rfl
theorem Clnt.at8 (x : Clnt) (h : 8 < x.vals.length) : x.vals[8] = .int .i64 x.p1.gen := rfl
theorem Clnt.lat8 (x : Clnt) : x.vals[8]? = some (.int .i64 x.p1.gen) := rfl
theorem Clnt.at9 (x : Clnt) (h : 9 < x.vals.length) : x.vals[9] = .int .i64 x.p1.at_ := rfl
theorem Clnt.lat9 (x : Clnt) : x.vals[9]? = some (.int .i64 x.p1.at_) := rfl
theorem Clnt.at10 (x : Clnt) (h : 10 < x.vals.length) : x.vals[10] = .string (bs x.p1.bytes) := rfl
theorem Clnt.lat10 (x : Clnt) : x.vals[10]? = some (.string (bs x.p1.bytes)) := rfl
theorem Clnt.at11 (x : Clnt) (h : 11 < x.vals.length) : x.vals[11] = .string (bs x.p2.handle) := rfl
theorem Clnt.lat11 (x : Clnt) : x.vals[11]? = some (.string (bs x.p2.handle)) := rfl
theorem Clnt.at12 (x : Clnt) (h : 12 < x.vals.length) : x.vals[12] = .int .i64 x.p2.gen := rfl
theorem Clnt.lat12 (x : Clnt) : x.vals[12]? = some (.int .i64 x.p2.gen) := rfl
theorem Clnt.at13 (x : Clnt) (h : 13 < x.vals.length) : x.vals[13] = .int .i64 x.p2.at_ := rfl
theorem Clnt.lat13 (x : Clnt) : x.vals[13]? = some (.int .i64 x.p2.at_) := rfl
theorem Clnt.at14 (x : Clnt) (h : 14 < x.vals.length) : x.vals[14] = .string (bs x.p2.bytes) := rfl
theorem Clnt.lat14 (x : Clnt) : x.vals[14]? = some (.string (bs x.p2.bytes)) := rfl
theorem Clnt.at15 (x : Clnt) (h : 15 < x.vals.length) : x.vals[15] = .string (bs x.p3.handle) := rfl
theorem Clnt.lat15 (x : Clnt) : x.vals[15]? = some (.string (bs x.p3.handle)) := rfl
theorem Clnt.at16 (x : Clnt) (h : 16 < x.vals.length) : x.vals[16] = .int .i64 x.p3.gen := rfl
theorem Clnt.lat16 (x : Clnt) : x.vals[16]? = some (.int .i64 x.p3.gen) := rfl
theorem Clnt.at17 (x : Clnt) (h : 17 < x.vals.length) : x.vals[17] = .int .i64 x.p3.at_ := rfl
theorem Clnt.lat17 (x : Clnt) : x.vals[17]? = some (.int .i64 x.p3.at_) := rfl
theorem Clnt.at18 (x : Clnt) (h : 18 < x.vals.length) : x.vals[18] = .string (bs x.p3.bytes) := rfl
theorem Clnt.lat18 (x : Clnt) : x.vals[18]? = some (.string (bs x.p3.bytes)) := rfl
theorem Clnt.at19 (x : Clnt) (h : 19 < x.vals.length) : x.vals[19] = .slice x.ta x.tn x.tc := rfl
theorem Clnt.lat19 (x : Clnt) : x.vals[19]? = some (.slice x.ta x.tn x.tc) := rfl
theorem Clnt.at20 (x : Clnt) (h : 20 < x.vals.length) : x.vals[20] = .int .i64 x.now.c.proc := rfl
theorem Clnt.lat20 (x : Clnt) : x.vals[20]? = some (.int .i64 x.now.c.proc) := rfl
theorem Clnt.at21 (x : Clnt) (h : 21 < x.vals.length) : x.vals[21] = .string (bs x.now.c.fh) := rfl
theorem Clnt.lat21 (x : Clnt) : x.vals[21]? = some (.string (bs x.now.c.fh)) := rfl
theorem Clnt.at22 (x : Clnt) (h : 22 < x.vals.length) : x.vals[22] = .string (bs x.now.c.name) := rfl
theorem Clnt.lat22 (x : Clnt) : x.vals[22]? = some (.string (bs x.now.c.name)) := rfl
theorem Clnt.at23 (x : Clnt) (h : 23 < x.vals.length) : x.vals[23] = .string (bs x.now.c.fh2) := rfl
theorem Clnt.lat23 (x : Clnt) : x.vals[23]? = some (.string (bs x.now.c.fh2)) := rfl
theorem Clnt.at24 (x : Clnt) (h : 24 < x.vals.length) : x.vals[24] = .string (bs x.now.c.name2) := rfl
theorem Clnt.lat24 (x : Clnt) : x.vals[24]? = some (.string (bs x.now.c.name2)) := rfl
theorem Clnt.at25 (x : Clnt) (h : 25 < x.vals.length) : x.vals[25] = .int .i64 x.now.c.offset := rfl
theorem Clnt.lat25 (x : Clnt) : x.vals[25]? = some (.int .i64 x.now.c.offset) := rfl
theorem Clnt.at26 (x : Clnt) (h : 26 < x.vals.length) : x.vals[26] = .int .i64 x.now.c.count := rfl
theorem Clnt.lat26 (x : Clnt) : x.vals[26]? = some (.int .i64 x.now.c.count) := rfl
theorem Clnt.at27 (x : Clnt) (h : 27 < x.vals.length) : x.vals[27] = .int .i64 x.now.c.how := rfl
theorem Clnt.lat27 (x : Clnt) : x.vals[27]? = some (.int .i64 x.now.c.how) := rfl
theorem Clnt.at28 (x : Clnt) (h : 28 < x.vals.length) : x.vals[28] = .string (bs x.now.c.data) := rfl
theorem Clnt.lat28 (x : Clnt) : x.vals[28]? = some (.string (bs x.now.c.data)) := rfl
theorem Clnt.at29 (x : Clnt) (h : 29 < x.vals.length) : x.vals[29] = .bool x.now.c.set.mode.is := rfl
theorem Clnt.lat29 (x : Clnt) : x.vals[29]? = some (.bool x.now.c.set.mode.is) := rfl
theorem Clnt.at30 (x : Clnt) (h : 30 < x.vals.length) : x.vals[30] = .int .i64 x.now.c.set.mode.n := rfl
theorem Clnt.lat30 (x : Clnt) : x.vals[30]? = some (.int .i64 x.now.c.set.mode.n) := rfl
theorem Clnt.at31 (x : Clnt) (h : 31 < x.vals.length) : x.vals[31] = .bool x.now.c.set.uid.is := rfl
theorem Clnt.lat31 (x : Clnt) : x.vals[31]? = some (.bool x.now.c.set.uid.is) := rfl
theorem Clnt.at32 (x : Clnt) (h : 32 < x.vals.length) : x.vals[32] = .int .i64 x.now.c.set.uid.n := rfl
theorem Clnt.lat32 (x : Clnt) : x.vals[32]? = some (.int .i64 x.now.c.set.uid.n) := rfl
theorem Clnt.at33 (x : Clnt) (h : 33 < x.vals.length) : x.vals[33] = .bool x.now.c.set.gid.is := rfl
theorem Clnt.lat33 (x : Clnt) : x.vals[33]? = some (.bool x.now.c.set.gid.is) := rfl
theorem Clnt.at34 (x : Clnt) (h : 34 < x.vals.length) : x.vals[34] = .int .i64 x.now.c.set.gid.n := rfl
theorem Clnt.lat34 (x : Clnt) : x.vals[34]? = some (.int .i64 x.now.c.set.gid.n) := rfl
theorem Clnt.at35 (x : Clnt) (h : 35 < x.vals.length) : x.vals[35] = .bool x.now.c.set.size.is := rfl
theorem Clnt.lat35 (x : Clnt) : x.vals[35]? = some (.bool x.now.c.set.size.is) := rfl
theorem Clnt.at36 (x : Clnt) (h : 36 < x.vals.length) : x.vals[36] = .int .i64 x.now.c.set.size.n := rfl
theorem Clnt.lat36 (x : Clnt) : x.vals[36]? = some (.int .i64 x.now.c.set.size.n) := rfl
theorem Clnt.at37 (x : Clnt) (h : 37 < x.vals.length) : x.vals[37] = .bool x.now.c.set.time.is := rfl
theorem Clnt.lat37 (x : Clnt) : x.vals[37]? = some (.bool x.now.c.set.time.is) := rfl
theorem Clnt.at38 (x : Clnt) (h : 38 < x.vals.length) : x.vals[38] = .int .i64 x.now.c.set.time.n := rfl
theorem Clnt.lat38 (x : Clnt) : x.vals[38]? = some (.int .i64 x.now.c.set.time.n) := rfl
theorem Clnt.at39 (x : Clnt) (h : 39 < x.vals.length) : x.vals[39] = .bool x.now.c.guard.is := rfl
theorem Clnt.lat39 (x : Clnt) : x.vals[39]? = some (.bool x.now.c.guard.is) := rfl
theorem Clnt.at40 (x : Clnt) (h : 40 < x.vals.length) : x.vals[40] = .int .i64 x.now.c.guard.n := rfl
theorem Clnt.lat40 (x : Clnt) : x.vals[40]? = some (.int .i64 x.now.c.guard.n) := rfl
theorem Clnt.at41 (x : Clnt) (h : 41 < x.vals.length) : x.vals[41] = .int .i64 x.now.c.cookie := rfl
theorem Clnt.lat41 (x : Clnt) : x.vals[41]? = some (.int .i64 x.now.c.cookie) := rfl
theorem Clnt.at42 (x : Clnt) (h : 42 < x.vals.length) : x.vals[42] = .int .i64 x.now.c.verf := rfl
theorem Clnt.lat42 (x : Clnt) : x.vals[42]? = some (.int .i64 x.now.c.verf) := rfl
theorem Clnt.at43 (x : Clnt) (h : 43 < x.vals.length) : x.vals[43] = .string (bs x.now.c.text) := rfl
theorem Clnt.lat43 (x : Clnt) : x.vals[43]? = some (.string (bs x.now.c.text)) := rfl
theorem Clnt.at44 (x : Clnt) (h : 44 < x.vals.length) : x.vals[44] = .int .i64 x.now.dir := rfl
theorem Clnt.lat44 (x : Clnt) : x.vals[44]? = some (.int .i64 x.now.dir) := rfl
theorem Clnt.at45 (x : Clnt) (h : 45 < x.vals.length) : x.vals[45] = .int .i64 x.now.to_ := rfl
theorem Clnt.lat45 (x : Clnt) : x.vals[45]? = some (.int .i64 x.now.to_) := rfl
theorem Clnt.at46 (x : Clnt) (h : 46 < x.vals.length) : x.vals[46] = .int .i64 x.now.put := rfl
theorem Clnt.lat46 (x : Clnt) : x.vals[46]? = some (.int .i64 x.now.put) := rfl
theorem Clnt.at47 (x : Clnt) (h : 47 < x.vals.length) : x.vals[47] = .int .i64 x.now.uid := rfl
theorem Clnt.lat47 (x : Clnt) : x.vals[47]? = some (.int .i64 x.now.uid) := rfl
theorem Clnt.at48 (x : Clnt) (h : 48 < x.vals.length) : x.vals[48] = .int .i64 x.now.gid := rfl
theorem Clnt.lat48 (x : Clnt) : x.vals[48]? = some (.int .i64 x.now.gid) := rfl
theorem Clnt.at49 (x : Clnt) (h : 49 < x.vals.length) : x.vals[49] = .bool x.busy := rfl
theorem Clnt.lat49 (x : Clnt) : x.vals[49]? = some (.bool x.busy) := rfl
theorem Clnt.at50 (x : Clnt) (h : 50 < x.vals.length) : x.vals[50] = .int .i64 x.sent.from_ := rfl
theorem Clnt.lat50 (x : Clnt) : x.vals[50]? = some (.int .i64 x.sent.from_) := rfl
theorem Clnt.at51 (x : Clnt) (h : 51 < x.vals.length) : x.vals[51] = .int .i64 x.sent.to_ := rfl
theorem Clnt.lat51 (x : Clnt) : x.vals[51]? = some (.int .i64 x.sent.to_) := rfl
theorem Clnt.at52 (x : Clnt) (h : 52 < x.vals.length) : x.vals[52] = .string (bs x.sent.data) := rfl
theorem Clnt.lat52 (x : Clnt) : x.vals[52]? = some (.string (bs x.sent.data)) := rfl
theorem Clnt.at53 (x : Clnt) (h : 53 < x.vals.length) : x.vals[53] = .int .i64 x.due := rfl
theorem Clnt.lat53 (x : Clnt) : x.vals[53]? = some (.int .i64 x.due) := rfl
theorem Clnt.at54 (x : Clnt) (h : 54 < x.vals.length) : x.vals[54] = .int .i64 x.made := rfl
theorem Clnt.lat54 (x : Clnt) : x.vals[54]? = some (.int .i64 x.made) := rfl
theorem Clnt.at55 (x : Clnt) (h : 55 < x.vals.length) : x.vals[55] = .slice x.ra x.rn x.rc := rfl
theorem Clnt.lat55 (x : Clnt) : x.vals[55]? = some (.slice x.ra x.rn x.rc) := rfl
theorem Clnt.sub0_56 (x : Clnt) : x.vals.toArray.extract 0 56 = x.vals.toArray := (List.extract_toArray ..).trans (congrArg List.toArray (show _ = x.vals from rfl))
theorem Clnt.lsub0_56 (x : Clnt) : x.vals.take 56 = x.vals := rfl
theorem Clnt.sub3_4 (x : Clnt) : x.vals.toArray.extract 3 7 = x.p0.vals.toArray := (List.extract_toArray ..).trans (congrArg List.toArray (show _ = x.p0.vals from rfl))
theorem Clnt.lsub3_4 (x : Clnt) : (x.vals.drop 3).take 4 = x.p0.vals := rfl
theorem Clnt.sub7_4 (x : Clnt) : x.vals.toArray.extract 7 11 = x.p1.vals.toArray := (List.extract_toArray ..).trans (congrArg List.toArray (show _ = x.p1.vals from rfl))
theorem Clnt.lsub7_4 (x : Clnt) : (x.vals.drop 7).take 4 = x.p1.vals := rfl
theorem Clnt.sub11_4 (x : Clnt) : x.vals.toArray.extract 11 15 = x.p2.vals.toArray := (List.extract_toArray ..).trans (congrArg List.toArray (show _ = x.p2.vals from rfl))
theorem Clnt.lsub11_4 (x : Clnt) : (x.vals.drop 11).take 4 = x.p2.vals := rfl
theorem Clnt.sub15_4 (x : Clnt) : x.vals.toArray.extract 15 19 = x.p3.vals.toArray := (List.extract_toArray ..).trans (congrArg List.toArray (show _ = x.p3.vals from rfl))
theorem Clnt.lsub15_4 (x : Clnt) : (x.vals.drop 15).take 4 = x.p3.vals := rfl
theorem Clnt.sub20_29 (x : Clnt) : x.vals.toArray.extract 20 49 = x.now.vals.toArray := (List.extract_toArray ..).trans (congrArg List.toArray (show _ = x.now.vals from rfl))
theorem Clnt.lsub20_29 (x : Clnt) : (x.vals.drop 20).take 29 = x.now.vals := rfl
theorem Clnt.sub20_24 (x : Clnt) : x.vals.toArray.extract 20 44 = x.now.c.vals.toArray := (List.extract_toArray ..).trans (congrArg List.toArray (show _ = x.now.c.vals from rfl))
theorem Clnt.lsub20_24 (x : Clnt) : (x.vals.drop 20).take 24 = x.now.c.vals := rfl
theorem Clnt.sub29_10 (x : Clnt) : x.vals.toArray.extract 29 39 = x.now.c.set.vals.toArray := (List.extract_toArray ..).trans (congrArg List.toArray (show _ = x.now.c.set.vals from rfl))
theorem Clnt.lsub29_10 (x : Clnt) : (x.vals.drop 29).take 10 = x.now.c.set.vals := rfl
theorem Clnt.sub29_2 (x : Clnt) : x.vals.toArray.extract 29 31 = x.now.c.set.mode.vals.toArray := (List.extract_toArray ..).trans (congrArg List.toArray (show _ = x.now.c.set.mode.vals from rfl))
theorem Clnt.lsub29_2 (x : Clnt) : (x.vals.drop 29).take 2 = x.now.c.set.mode.vals := rfl
theorem Clnt.sub31_2 (x : Clnt) : x.vals.toArray.extract 31 33 = x.now.c.set.uid.vals.toArray := (List.extract_toArray ..).trans (congrArg List.toArray (show _ = x.now.c.set.uid.vals from rfl))
theorem Clnt.lsub31_2 (x : Clnt) : (x.vals.drop 31).take 2 = x.now.c.set.uid.vals := rfl
theorem Clnt.sub33_2 (x : Clnt) : x.vals.toArray.extract 33 35 = x.now.c.set.gid.vals.toArray := (List.extract_toArray ..).trans (congrArg List.toArray (show _ = x.now.c.set.gid.vals from rfl))
theorem Clnt.lsub33_2 (x : Clnt) : (x.vals.drop 33).take 2 = x.now.c.set.gid.vals := rfl
theorem Clnt.sub35_2 (x : Clnt) : x.vals.toArray.extract 35 37 = x.now.c.set.size.vals.toArray := (List.extract_toArray ..).trans (congrArg List.toArray (show _ = x.now.c.set.size.vals from rfl))
theorem Clnt.lsub35_2 (x : Clnt) : (x.vals.drop 35).take 2 = x.now.c.set.size.vals := rfl
theorem Clnt.sub37_2 (x : Clnt) : x.vals.toArray.extract 37 39 = x.now.c.set.time.vals.toArray := (List.extract_toArray ..).trans (congrArg List.toArray (show _ = x.now.c.set.time.vals from rfl))
theorem Clnt.lsub37_2 (x : Clnt) : (x.vals.drop 37).take 2 = x.now.c.set.time.vals := rfl
theorem Clnt.sub39_2 (x : Clnt) : x.vals.toArray.extract 39 41 = x.now.c.guard.vals.toArray := (List.extract_toArray ..).trans (congrArg List.toArray (show _ = x.now.c.guard.vals from rfl))
theorem Clnt.lsub39_2 (x : Clnt) : (x.vals.drop 39).take 2 = x.now.c.guard.vals := rfl
theorem Clnt.sub50_3 (x : Clnt) : x.vals.toArray.extract 50 53 = x.sent.vals.toArray := (List.extract_toArray ..).trans (congrArg List.toArray (show _ = x.sent.vals from rfl))
theorem Clnt.lsub50_3 (x : Clnt) : (x.vals.drop 50).take 3 = x.sent.vals := rfl
def Clnt.good (x : Clnt) : Prop := (Lit.int .i64 x.id).wf = true ∧ (Lit.int .i64 x.self).wf = true ∧ (Lit.int .i64 x.server).wf = true ∧ x.p0.good ∧ x.p1.good ∧ x.p2.good ∧ x.p3.good ∧ x.tn ≤ maxLen ∧ x.now.good ∧ x.sent.good ∧ (Lit.int .i64 x.due).wf = true ∧ (Lit.int .i64 x.made).wf = true ∧ x.rn ≤ maxLen

structure FPlace where
  handle : List UInt8
  gen : Int
  at_ : Int
  bytes : List UInt8
  deriving DecidableEq
def FPlace.vals (x : FPlace) : List Value := [.string (bs x.handle), .int .i64 x.gen, .int .i64 x.at_, .string (bs x.bytes)]
theorem FPlace.len (x : FPlace) : x.vals.length = 4 := rfl
theorem FPlace.one (x : FPlace) : ∀ v ∈ x.vals, v.oneCell' = true := by
  intro v hv
  unfold FPlace.vals at hv
  simp only [List.mem_cons, List.not_mem_nil, or_false] at hv
  rcases hv with rfl | rfl | rfl | rfl <;> rfl
theorem FPlace.at0 (x : FPlace) (h : 0 < x.vals.length) : x.vals[0] = .string (bs x.handle) := rfl
theorem FPlace.lat0 (x : FPlace) : x.vals[0]? = some (.string (bs x.handle)) := rfl
theorem FPlace.at1 (x : FPlace) (h : 1 < x.vals.length) : x.vals[1] = .int .i64 x.gen := rfl
theorem FPlace.lat1 (x : FPlace) : x.vals[1]? = some (.int .i64 x.gen) := rfl
theorem FPlace.at2 (x : FPlace) (h : 2 < x.vals.length) : x.vals[2] = .int .i64 x.at_ := rfl
theorem FPlace.lat2 (x : FPlace) : x.vals[2]? = some (.int .i64 x.at_) := rfl
theorem FPlace.at3 (x : FPlace) (h : 3 < x.vals.length) : x.vals[3] = .string (bs x.bytes) := rfl
theorem FPlace.lat3 (x : FPlace) : x.vals[3]? = some (.string (bs x.bytes)) := rfl
theorem FPlace.sub0_4 (x : FPlace) : x.vals.toArray.extract 0 4 = x.vals.toArray := (List.extract_toArray ..).trans (congrArg List.toArray (show _ = x.vals from rfl))
theorem FPlace.lsub0_4 (x : FPlace) : x.vals.take 4 = x.vals := rfl
def FPlace.good (x : FPlace) : Prop := x.handle.length ≤ maxLen ∧ (Lit.int .i64 x.gen).wf = true ∧ (Lit.int .i64 x.at_).wf = true ∧ x.bytes.length ≤ maxLen

structure FPart where
  c : Call
  dir : Int
  to_ : Int
  put : Int
  deriving DecidableEq
def FPart.vals (x : FPart) : List Value := x.c.vals ++ [.int .i64 x.dir, .int .i64 x.to_, .int .i64 x.put]
theorem FPart.len (x : FPart) : x.vals.length = 27 := rfl
theorem FPart.one (x : FPart) : ∀ v ∈ x.vals, v.oneCell' = true := by
  intro v hv
  unfold FPart.vals at hv
  rcases List.mem_append.1 hv with hv | hv
  · exact Call.one _ v hv
  · simp only [List.mem_cons, List.not_mem_nil, or_false] at hv
    rcases hv with rfl | rfl | rfl <;> rfl
theorem FPart.at0 (x : FPart) (h : 0 < x.vals.length) : x.vals[0] = .int .i64 x.c.proc := rfl
theorem FPart.lat0 (x : FPart) : x.vals[0]? = some (.int .i64 x.c.proc) := rfl
theorem FPart.at1 (x : FPart) (h : 1 < x.vals.length) : x.vals[1] = .string (bs x.c.fh) := rfl
theorem FPart.lat1 (x : FPart) : x.vals[1]? = some (.string (bs x.c.fh)) := rfl
theorem FPart.at2 (x : FPart) (h : 2 < x.vals.length) : x.vals[2] = .string (bs x.c.name) := rfl
theorem FPart.lat2 (x : FPart) : x.vals[2]? = some (.string (bs x.c.name)) := rfl
theorem FPart.at3 (x : FPart) (h : 3 < x.vals.length) : x.vals[3] = .string (bs x.c.fh2) := rfl
theorem FPart.lat3 (x : FPart) : x.vals[3]? = some (.string (bs x.c.fh2)) := rfl
theorem FPart.at4 (x : FPart) (h : 4 < x.vals.length) : x.vals[4] = .string (bs x.c.name2) := rfl
theorem FPart.lat4 (x : FPart) : x.vals[4]? = some (.string (bs x.c.name2)) := rfl
theorem FPart.at5 (x : FPart) (h : 5 < x.vals.length) : x.vals[5] = .int .i64 x.c.offset := rfl
theorem FPart.lat5 (x : FPart) : x.vals[5]? = some (.int .i64 x.c.offset) := rfl
theorem FPart.at6 (x : FPart) (h : 6 < x.vals.length) : x.vals[6] = .int .i64 x.c.count := rfl
theorem FPart.lat6 (x : FPart) : x.vals[6]? = some (.int .i64 x.c.count) := rfl
theorem FPart.at7 (x : FPart) (h : 7 < x.vals.length) : x.vals[7] = .int .i64 x.c.how := rfl
theorem FPart.lat7 (x : FPart) : x.vals[7]? = some (.int .i64 x.c.how) := rfl
theorem FPart.at8 (x : FPart) (h : 8 < x.vals.length) : x.vals[8] = .string (bs x.c.data) := rfl
theorem FPart.lat8 (x : FPart) : x.vals[8]? = some (.string (bs x.c.data)) := rfl
theorem FPart.at9 (x : FPart) (h : 9 < x.vals.length) : x.vals[9] = .bool x.c.set.mode.is := rfl
theorem FPart.lat9 (x : FPart) : x.vals[9]? = some (.bool x.c.set.mode.is) := rfl
theorem FPart.at10 (x : FPart) (h : 10 < x.vals.length) : x.vals[10] = .int .i64 x.c.set.mode.n := rfl
theorem FPart.lat10 (x : FPart) : x.vals[10]? = some (.int .i64 x.c.set.mode.n) := rfl
theorem FPart.at11 (x : FPart) (h : 11 < x.vals.length) : x.vals[11] = .bool x.c.set.uid.is := rfl
theorem FPart.lat11 (x : FPart) : x.vals[11]? = some (.bool x.c.set.uid.is) := rfl
theorem FPart.at12 (x : FPart) (h : 12 < x.vals.length) : x.vals[12] = .int .i64 x.c.set.uid.n := rfl
theorem FPart.lat12 (x : FPart) : x.vals[12]? = some (.int .i64 x.c.set.uid.n) := rfl
theorem FPart.at13 (x : FPart) (h : 13 < x.vals.length) : x.vals[13] = .bool x.c.set.gid.is := rfl
theorem FPart.lat13 (x : FPart) : x.vals[13]? = some (.bool x.c.set.gid.is) := rfl
theorem FPart.at14 (x : FPart) (h : 14 < x.vals.length) : x.vals[14] = .int .i64 x.c.set.gid.n := rfl
theorem FPart.lat14 (x : FPart) : x.vals[14]? = some (.int .i64 x.c.set.gid.n) := rfl
theorem FPart.at15 (x : FPart) (h : 15 < x.vals.length) : x.vals[15] = .bool x.c.set.size.is := rfl
theorem FPart.lat15 (x : FPart) : x.vals[15]? = some (.bool x.c.set.size.is) := rfl
theorem FPart.at16 (x : FPart) (h : 16 < x.vals.length) : x.vals[16] = .int .i64 x.c.set.size.n := rfl
theorem FPart.lat16 (x : FPart) : x.vals[16]? = some (.int .i64 x.c.set.size.n) := rfl
theorem FPart.at17 (x : FPart) (h : 17 < x.vals.length) : x.vals[17] = .bool x.c.set.time.is := rfl
theorem FPart.lat17 (x : FPart) : x.vals[17]? = some (.bool x.c.set.time.is) := rfl
theorem FPart.at18 (x : FPart) (h : 18 < x.vals.length) : x.vals[18] = .int .i64 x.c.set.time.n := rfl
theorem FPart.lat18 (x : FPart) : x.vals[18]? = some (.int .i64 x.c.set.time.n) := rfl
theorem FPart.at19 (x : FPart) (h : 19 < x.vals.length) : x.vals[19] = .bool x.c.guard.is := rfl
theorem FPart.lat19 (x : FPart) : x.vals[19]? = some (.bool x.c.guard.is) := rfl
theorem FPart.at20 (x : FPart) (h : 20 < x.vals.length) : x.vals[20] = .int .i64 x.c.guard.n := rfl
theorem FPart.lat20 (x : FPart) : x.vals[20]? = some (.int .i64 x.c.guard.n) := rfl
theorem FPart.at21 (x : FPart) (h : 21 < x.vals.length) : x.vals[21] = .int .i64 x.c.cookie := rfl
theorem FPart.lat21 (x : FPart) : x.vals[21]? = some (.int .i64 x.c.cookie) := rfl
theorem FPart.at22 (x : FPart) (h : 22 < x.vals.length) : x.vals[22] = .int .i64 x.c.verf := rfl
theorem FPart.lat22 (x : FPart) : x.vals[22]? = some (.int .i64 x.c.verf) := rfl
theorem FPart.at23 (x : FPart) (h : 23 < x.vals.length) : x.vals[23] = .string (bs x.c.text) := rfl
theorem FPart.lat23 (x : FPart) : x.vals[23]? = some (.string (bs x.c.text)) := rfl
theorem FPart.at24 (x : FPart) (h : 24 < x.vals.length) : x.vals[24] = .int .i64 x.dir := rfl
theorem FPart.lat24 (x : FPart) : x.vals[24]? = some (.int .i64 x.dir) := rfl
theorem FPart.at25 (x : FPart) (h : 25 < x.vals.length) : x.vals[25] = .int .i64 x.to_ := rfl
theorem FPart.lat25 (x : FPart) : x.vals[25]? = some (.int .i64 x.to_) := rfl
theorem FPart.at26 (x : FPart) (h : 26 < x.vals.length) : x.vals[26] = .int .i64 x.put := rfl
theorem FPart.lat26 (x : FPart) : x.vals[26]? = some (.int .i64 x.put) := rfl
theorem FPart.sub0_27 (x : FPart) : x.vals.toArray.extract 0 27 = x.vals.toArray := (List.extract_toArray ..).trans (congrArg List.toArray (show _ = x.vals from rfl))
theorem FPart.lsub0_27 (x : FPart) : x.vals.take 27 = x.vals := rfl
theorem FPart.sub0_24 (x : FPart) : x.vals.toArray.extract 0 24 = x.c.vals.toArray := (List.extract_toArray ..).trans (congrArg List.toArray (show _ = x.c.vals from rfl))
theorem FPart.lsub0_24 (x : FPart) : x.vals.take 24 = x.c.vals := rfl
theorem FPart.sub9_10 (x : FPart) : x.vals.toArray.extract 9 19 = x.c.set.vals.toArray := (List.extract_toArray ..).trans (congrArg List.toArray (show _ = x.c.set.vals from rfl))
theorem FPart.lsub9_10 (x : FPart) : (x.vals.drop 9).take 10 = x.c.set.vals := rfl
theorem FPart.sub9_2 (x : FPart) : x.vals.toArray.extract 9 11 = x.c.set.mode.vals.toArray := (List.extract_toArray ..).trans (congrArg List.toArray (show _ = x.c.set.mode.vals from rfl))
theorem FPart.lsub9_2 (x : FPart) : (x.vals.drop 9).take 2 = x.c.set.mode.vals := rfl
theorem FPart.sub11_2 (x : FPart) : x.vals.toArray.extract 11 13 = x.c.set.uid.vals.toArray := (List.extract_toArray ..).trans (congrArg List.toArray (show _ = x.c.set.uid.vals from rfl))
theorem FPart.lsub11_2 (x : FPart) : (x.vals.drop 11).take 2 = x.c.set.uid.vals := rfl
theorem FPart.sub13_2 (x : FPart) : x.vals.toArray.extract 13 15 = x.c.set.gid.vals.toArray := (List.extract_toArray ..).trans (congrArg List.toArray (show _ = x.c.set.gid.vals from rfl))
theorem FPart.lsub13_2 (x : FPart) : (x.vals.drop 13).take 2 = x.c.set.gid.vals := rfl
theorem FPart.sub15_2 (x : FPart) : x.vals.toArray.extract 15 17 = x.c.set.size.vals.toArray := (List.extract_toArray ..).trans (congrArg List.toArray (show _ = x.c.set.size.vals from rfl))
theorem FPart.lsub15_2 (x : FPart) : (x.vals.drop 15).take 2 = x.c.set.size.vals := rfl
theorem FPart.sub17_2 (x : FPart) : x.vals.toArray.extract 17 19 = x.c.set.time.vals.toArray := (List.extract_toArray ..).trans (congrArg List.toArray (show _ = x.c.set.time.vals from rfl))
theorem FPart.lsub17_2 (x : FPart) : (x.vals.drop 17).take 2 = x.c.set.time.vals := rfl
theorem FPart.sub19_2 (x : FPart) : x.vals.toArray.extract 19 21 = x.c.guard.vals.toArray := (List.extract_toArray ..).trans (congrArg List.toArray (show _ = x.c.guard.vals from rfl))
theorem FPart.lsub19_2 (x : FPart) : (x.vals.drop 19).take 2 = x.c.guard.vals := rfl
def FPart.good (x : FPart) : Prop := x.c.good ∧ (Lit.int .i64 x.dir).wf = true ∧ (Lit.int .i64 x.to_).wf = true ∧ (Lit.int .i64 x.put).wf = true

structure FClnt where
  id : Int
  self : Int
  server : Int
  p0 : FPlace
  p1 : FPlace
  p2 : FPlace
  p3 : FPlace
  ta : Option Addr
  tn : Nat
  tc : Nat
  now : FPart
  busy : Bool
  sent : Packet
  due : Int
  uid : Int
  gid : Int
  ra : Option Addr
  rn : Nat
  rc : Nat
def FClnt.vals (x : FClnt) : List Value := [.int .i64 x.id, .int .i64 x.self, .int .i64 x.server] ++ (x.p0.vals ++ (x.p1.vals ++ (x.p2.vals ++ (x.p3.vals ++ ([.slice x.ta x.tn x.tc] ++ (x.now.vals ++ ([.bool x.busy] ++ (x.sent.vals ++ [.int .i64 x.due, .int .i64 x.uid, .int .i64 x.gid, .slice x.ra x.rn x.rc]))))))))
theorem FClnt.len (x : FClnt) : x.vals.length = 55 := rfl
theorem FClnt.one (x : FClnt) : ∀ v ∈ x.vals, v.oneCell' = true := by
  intro v hv
  unfold FClnt.vals at hv
  rcases List.mem_append.1 hv with hv | hv
  · simp only [List.mem_cons, List.not_mem_nil, or_false] at hv
    rcases hv with rfl | rfl | rfl <;> rfl
  · rcases List.mem_append.1 hv with hv | hv
    · exact FPlace.one _ v hv
    · rcases List.mem_append.1 hv with hv | hv
      · exact FPlace.one _ v hv
      · rcases List.mem_append.1 hv with hv | hv
        · exact FPlace.one _ v hv
        · rcases List.mem_append.1 hv with hv | hv
          · exact FPlace.one _ v hv
          · rcases List.mem_append.1 hv with hv | hv
            · simp only [List.mem_cons, List.not_mem_nil, or_false] at hv
              subst hv; rfl
            · rcases List.mem_append.1 hv with hv | hv
              · exact FPart.one _ v hv
              · rcases List.mem_append.1 hv with hv | hv
                · simp only [List.mem_cons, List.not_mem_nil, or_false] at hv
                  subst hv; rfl
                · rcases List.mem_append.1 hv with hv | hv
                  · exact Packet.one _ v hv
                  · simp only [List.mem_cons, List.not_mem_nil, or_false] at hv
                    rcases hv with rfl | rfl | rfl | rfl <;> rfl
theorem FClnt.at0 (x : FClnt) (h : 0 < x.vals.length) : x.vals[0] = .int .i64 x.id := rfl
theorem FClnt.lat0 (x : FClnt) : x.vals[0]? = some (.int .i64 x.id) := rfl
theorem FClnt.at1 (x : FClnt) (h : 1 < x.vals.length) : x.vals[1] = .int .i64 x.self := rfl
theorem FClnt.lat1 (x : FClnt) : x.vals[1]? = some (.int .i64 x.self) := rfl
theorem FClnt.at2 (x : FClnt) (h : 2 < x.vals.length) : x.vals[2] = .int .i64 x.server := rfl
theorem FClnt.lat2 (x : FClnt) : x.vals[2]? = some (.int .i64 x.server) := rfl
theorem FClnt.at3 (x : FClnt) (h : 3 < x.vals.length) : x.vals[3] = .string (bs x.p0.handle) := rfl
theorem FClnt.lat3 (x : FClnt) : x.vals[3]? = some (.string (bs x.p0.handle)) := rfl
theorem FClnt.at4 (x : FClnt) (h : 4 < x.vals.length) : x.vals[4] = .int .i64 x.p0.gen := rfl
theorem FClnt.lat4 (x : FClnt) : x.vals[4]? = some (.int .i64 x.p0.gen) := rfl
theorem FClnt.at5 (x : FClnt) (h : 5 < x.vals.length) : x.vals[5] = .int .i64 x.p0.at_ := rfl
theorem FClnt.lat5 (x : FClnt) : x.vals[5]? = some (.int .i64 x.p0.at_) := rfl
theorem FClnt.at6 (x : FClnt) (h : 6 < x.vals.length) : x.vals[6] = .string (bs x.p0.bytes) := rfl
theorem FClnt.lat6 (x : FClnt) : x.vals[6]? = some (.string (bs x.p0.bytes)) := rfl
theorem FClnt.at7 (x : FClnt) (h : 7 < x.vals.length) : x.vals[7] = .string (bs x.p1.handle) := rfl
theorem FClnt.lat7 (x : FClnt) : x.vals[7]? = some (.string (bs x.p1.handle)) := rfl
theorem FClnt.at8 (x : FClnt) (h : 8 < x.vals.length) : x.vals[8] = .int .i64 x.p1.gen := rfl
theorem FClnt.lat8 (x : FClnt) : x.vals[8]? = some (.int .i64 x.p1.gen) := rfl
theorem FClnt.at9 (x : FClnt) (h : 9 < x.vals.length) : x.vals[9] = .int .i64 x.p1.at_ := rfl
theorem FClnt.lat9 (x : FClnt) : x.vals[9]? = some (.int .i64 x.p1.at_) := rfl
theorem FClnt.at10 (x : FClnt) (h : 10 < x.vals.length) : x.vals[10] = .string (bs x.p1.bytes) := rfl
theorem FClnt.lat10 (x : FClnt) : x.vals[10]? = some (.string (bs x.p1.bytes)) := rfl
theorem FClnt.at11 (x : FClnt) (h : 11 < x.vals.length) : x.vals[11] = .string (bs x.p2.handle) := rfl
theorem FClnt.lat11 (x : FClnt) : x.vals[11]? = some (.string (bs x.p2.handle)) := rfl
theorem FClnt.at12 (x : FClnt) (h : 12 < x.vals.length) : x.vals[12] = .int .i64 x.p2.gen := rfl
theorem FClnt.lat12 (x : FClnt) : x.vals[12]? = some (.int .i64 x.p2.gen) := rfl
theorem FClnt.at13 (x : FClnt) (h : 13 < x.vals.length) : x.vals[13] = .int .i64 x.p2.at_ := rfl
theorem FClnt.lat13 (x : FClnt) : x.vals[13]? = some (.int .i64 x.p2.at_) := rfl
theorem FClnt.at14 (x : FClnt) (h : 14 < x.vals.length) : x.vals[14] = .string (bs x.p2.bytes) := rfl
theorem FClnt.lat14 (x : FClnt) : x.vals[14]? = some (.string (bs x.p2.bytes)) := rfl
theorem FClnt.at15 (x : FClnt) (h : 15 < x.vals.length) : x.vals[15] = .string (bs x.p3.handle) := rfl
theorem FClnt.lat15 (x : FClnt) : x.vals[15]? = some (.string (bs x.p3.handle)) := rfl
theorem FClnt.at16 (x : FClnt) (h : 16 < x.vals.length) : x.vals[16] = .int .i64 x.p3.gen := rfl
theorem FClnt.lat16 (x : FClnt) : x.vals[16]? = some (.int .i64 x.p3.gen) := rfl
theorem FClnt.at17 (x : FClnt) (h : 17 < x.vals.length) : x.vals[17] = .int .i64 x.p3.at_ := rfl
theorem FClnt.lat17 (x : FClnt) : x.vals[17]? = some (.int .i64 x.p3.at_) := rfl
theorem FClnt.at18 (x : FClnt) (h : 18 < x.vals.length) : x.vals[18] = .string (bs x.p3.bytes) := rfl
theorem FClnt.lat18 (x : FClnt) : x.vals[18]? = some (.string (bs x.p3.bytes)) := rfl
theorem FClnt.at19 (x : FClnt) (h : 19 < x.vals.length) : x.vals[19] = .slice x.ta x.tn x.tc := rfl
theorem FClnt.lat19 (x : FClnt) : x.vals[19]? = some (.slice x.ta x.tn x.tc) := rfl
theorem FClnt.at20 (x : FClnt) (h : 20 < x.vals.length) : x.vals[20] = .int .i64 x.now.c.proc := rfl
theorem FClnt.lat20 (x : FClnt) : x.vals[20]? = some (.int .i64 x.now.c.proc) := rfl
theorem FClnt.at21 (x : FClnt) (h : 21 < x.vals.length) : x.vals[21] = .string (bs x.now.c.fh) := rfl
theorem FClnt.lat21 (x : FClnt) : x.vals[21]? = some (.string (bs x.now.c.fh)) := rfl
theorem FClnt.at22 (x : FClnt) (h : 22 < x.vals.length) : x.vals[22] = .string (bs x.now.c.name) := rfl
theorem FClnt.lat22 (x : FClnt) : x.vals[22]? = some (.string (bs x.now.c.name)) := rfl
theorem FClnt.at23 (x : FClnt) (h : 23 < x.vals.length) : x.vals[23] = .string (bs x.now.c.fh2) := rfl
theorem FClnt.lat23 (x : FClnt) : x.vals[23]? = some (.string (bs x.now.c.fh2)) := rfl
theorem FClnt.at24 (x : FClnt) (h : 24 < x.vals.length) : x.vals[24] = .string (bs x.now.c.name2) := rfl
theorem FClnt.lat24 (x : FClnt) : x.vals[24]? = some (.string (bs x.now.c.name2)) := rfl
theorem FClnt.at25 (x : FClnt) (h : 25 < x.vals.length) : x.vals[25] = .int .i64 x.now.c.offset := rfl
theorem FClnt.lat25 (x : FClnt) : x.vals[25]? = some (.int .i64 x.now.c.offset) := rfl
theorem FClnt.at26 (x : FClnt) (h : 26 < x.vals.length) : x.vals[26] = .int .i64 x.now.c.count := rfl
theorem FClnt.lat26 (x : FClnt) : x.vals[26]? = some (.int .i64 x.now.c.count) := rfl
theorem FClnt.at27 (x : FClnt) (h : 27 < x.vals.length) : x.vals[27] = .int .i64 x.now.c.how := rfl
theorem FClnt.lat27 (x : FClnt) : x.vals[27]? = some (.int .i64 x.now.c.how) := rfl
theorem FClnt.at28 (x : FClnt) (h : 28 < x.vals.length) : x.vals[28] = .string (bs x.now.c.data) := rfl
theorem FClnt.lat28 (x : FClnt) : x.vals[28]? = some (.string (bs x.now.c.data)) := rfl
theorem FClnt.at29 (x : FClnt) (h : 29 < x.vals.length) : x.vals[29] = .bool x.now.c.set.mode.is := rfl
theorem FClnt.lat29 (x : FClnt) : x.vals[29]? = some (.bool x.now.c.set.mode.is) := rfl
theorem FClnt.at30 (x : FClnt) (h : 30 < x.vals.length) : x.vals[30] = .int .i64 x.now.c.set.mode.n := rfl
theorem FClnt.lat30 (x : FClnt) : x.vals[30]? = some (.int .i64 x.now.c.set.mode.n) := rfl
theorem FClnt.at31 (x : FClnt) (h : 31 < x.vals.length) : x.vals[31] = .bool x.now.c.set.uid.is := rfl
theorem FClnt.lat31 (x : FClnt) : x.vals[31]? = some (.bool x.now.c.set.uid.is) := rfl
theorem FClnt.at32 (x : FClnt) (h : 32 < x.vals.length) : x.vals[32] = .int .i64 x.now.c.set.uid.n := rfl
theorem FClnt.lat32 (x : FClnt) : x.vals[32]? = some (.int .i64 x.now.c.set.uid.n) := rfl
theorem FClnt.at33 (x : FClnt) (h : 33 < x.vals.length) : x.vals[33] = .bool x.now.c.set.gid.is := rfl
theorem FClnt.lat33 (x : FClnt) : x.vals[33]? = some (.bool x.now.c.set.gid.is) := rfl
theorem FClnt.at34 (x : FClnt) (h : 34 < x.vals.length) : x.vals[34] = .int .i64 x.now.c.set.gid.n := rfl
theorem FClnt.lat34 (x : FClnt) : x.vals[34]? = some (.int .i64 x.now.c.set.gid.n) := rfl
theorem FClnt.at35 (x : FClnt) (h : 35 < x.vals.length) : x.vals[35] = .bool x.now.c.set.size.is := rfl
theorem FClnt.lat35 (x : FClnt) : x.vals[35]? = some (.bool x.now.c.set.size.is) := rfl
theorem FClnt.at36 (x : FClnt) (h : 36 < x.vals.length) : x.vals[36] = .int .i64 x.now.c.set.size.n := rfl
theorem FClnt.lat36 (x : FClnt) : x.vals[36]? = some (.int .i64 x.now.c.set.size.n) := rfl
theorem FClnt.at37 (x : FClnt) (h : 37 < x.vals.length) : x.vals[37] = .bool x.now.c.set.time.is := rfl
theorem FClnt.lat37 (x : FClnt) : x.vals[37]? = some (.bool x.now.c.set.time.is) := rfl
theorem FClnt.at38 (x : FClnt) (h : 38 < x.vals.length) : x.vals[38] = .int .i64 x.now.c.set.time.n := rfl
theorem FClnt.lat38 (x : FClnt) : x.vals[38]? = some (.int .i64 x.now.c.set.time.n) := rfl
theorem FClnt.at39 (x : FClnt) (h : 39 < x.vals.length) : x.vals[39] = .bool x.now.c.guard.is := rfl
theorem FClnt.lat39 (x : FClnt) : x.vals[39]? = some (.bool x.now.c.guard.is) := rfl
theorem FClnt.at40 (x : FClnt) (h : 40 < x.vals.length) : x.vals[40] = .int .i64 x.now.c.guard.n := rfl
theorem FClnt.lat40 (x : FClnt) : x.vals[40]? = some (.int .i64 x.now.c.guard.n) := rfl
theorem FClnt.at41 (x : FClnt) (h : 41 < x.vals.length) : x.vals[41] = .int .i64 x.now.c.cookie := rfl
theorem FClnt.lat41 (x : FClnt) : x.vals[41]? = some (.int .i64 x.now.c.cookie) := rfl
theorem FClnt.at42 (x : FClnt) (h : 42 < x.vals.length) : x.vals[42] = .int .i64 x.now.c.verf := rfl
theorem FClnt.lat42 (x : FClnt) : x.vals[42]? = some (.int .i64 x.now.c.verf) := rfl
theorem FClnt.at43 (x : FClnt) (h : 43 < x.vals.length) : x.vals[43] = .string (bs x.now.c.text) := rfl
theorem FClnt.lat43 (x : FClnt) : x.vals[43]? = some (.string (bs x.now.c.text)) := rfl
theorem FClnt.at44 (x : FClnt) (h : 44 < x.vals.length) : x.vals[44] = .int .i64 x.now.dir := rfl
theorem FClnt.lat44 (x : FClnt) : x.vals[44]? = some (.int .i64 x.now.dir) := rfl
theorem FClnt.at45 (x : FClnt) (h : 45 < x.vals.length) : x.vals[45] = .int .i64 x.now.to_ := rfl
theorem FClnt.lat45 (x : FClnt) : x.vals[45]? = some (.int .i64 x.now.to_) := rfl
theorem FClnt.at46 (x : FClnt) (h : 46 < x.vals.length) : x.vals[46] = .int .i64 x.now.put := rfl
theorem FClnt.lat46 (x : FClnt) : x.vals[46]? = some (.int .i64 x.now.put) := rfl
theorem FClnt.at47 (x : FClnt) (h : 47 < x.vals.length) : x.vals[47] = .bool x.busy := rfl
theorem FClnt.lat47 (x : FClnt) : x.vals[47]? = some (.bool x.busy) := rfl
theorem FClnt.at48 (x : FClnt) (h : 48 < x.vals.length) : x.vals[48] = .int .i64 x.sent.from_ := rfl
theorem FClnt.lat48 (x : FClnt) : x.vals[48]? = some (.int .i64 x.sent.from_) := rfl
theorem FClnt.at49 (x : FClnt) (h : 49 < x.vals.length) : x.vals[49] = .int .i64 x.sent.to_ := rfl
theorem FClnt.lat49 (x : FClnt) : x.vals[49]? = some (.int .i64 x.sent.to_) := rfl
theorem FClnt.at50 (x : FClnt) (h : 50 < x.vals.length) : x.vals[50] = .string (bs x.sent.data) := rfl
theorem FClnt.lat50 (x : FClnt) : x.vals[50]? = some (.string (bs x.sent.data)) := rfl
theorem FClnt.at51 (x : FClnt) (h : 51 < x.vals.length) : x.vals[51] = .int .i64 x.due := rfl
theorem FClnt.lat51 (x : FClnt) : x.vals[51]? = some (.int .i64 x.due) := rfl
theorem FClnt.at52 (x : FClnt) (h : 52 < x.vals.length) : x.vals[52] = .int .i64 x.uid := rfl
theorem FClnt.lat52 (x : FClnt) : x.vals[52]? = some (.int .i64 x.uid) := rfl
theorem FClnt.at53 (x : FClnt) (h : 53 < x.vals.length) : x.vals[53] = .int .i64 x.gid := rfl
theorem FClnt.lat53 (x : FClnt) : x.vals[53]? = some (.int .i64 x.gid) := rfl
theorem FClnt.at54 (x : FClnt) (h : 54 < x.vals.length) : x.vals[54] = .slice x.ra x.rn x.rc := rfl
theorem FClnt.lat54 (x : FClnt) : x.vals[54]? = some (.slice x.ra x.rn x.rc) := rfl
theorem FClnt.sub0_55 (x : FClnt) : x.vals.toArray.extract 0 55 = x.vals.toArray := (List.extract_toArray ..).trans (congrArg List.toArray (show _ = x.vals from rfl))
theorem FClnt.lsub0_55 (x : FClnt) : x.vals.take 55 = x.vals := rfl
theorem FClnt.sub3_4 (x : FClnt) : x.vals.toArray.extract 3 7 = x.p0.vals.toArray := (List.extract_toArray ..).trans (congrArg List.toArray (show _ = x.p0.vals from rfl))
theorem FClnt.lsub3_4 (x : FClnt) : (x.vals.drop 3).take 4 = x.p0.vals := rfl
theorem FClnt.sub7_4 (x : FClnt) : x.vals.toArray.extract 7 11 = x.p1.vals.toArray := (List.extract_toArray ..).trans (congrArg List.toArray (show _ = x.p1.vals from rfl))
theorem FClnt.lsub7_4 (x : FClnt) : (x.vals.drop 7).take 4 = x.p1.vals := rfl
theorem FClnt.sub11_4 (x : FClnt) : x.vals.toArray.extract 11 15 = x.p2.vals.toArray := (List.extract_toArray ..).trans (congrArg List.toArray (show _ = x.p2.vals from rfl))
theorem FClnt.lsub11_4 (x : FClnt) : (x.vals.drop 11).take 4 = x.p2.vals := rfl
theorem FClnt.sub15_4 (x : FClnt) : x.vals.toArray.extract 15 19 = x.p3.vals.toArray := (List.extract_toArray ..).trans (congrArg List.toArray (show _ = x.p3.vals from rfl))
theorem FClnt.lsub15_4 (x : FClnt) : (x.vals.drop 15).take 4 = x.p3.vals := rfl
theorem FClnt.sub20_27 (x : FClnt) : x.vals.toArray.extract 20 47 = x.now.vals.toArray := (List.extract_toArray ..).trans (congrArg List.toArray (show _ = x.now.vals from rfl))
theorem FClnt.lsub20_27 (x : FClnt) : (x.vals.drop 20).take 27 = x.now.vals := rfl
theorem FClnt.sub20_24 (x : FClnt) : x.vals.toArray.extract 20 44 = x.now.c.vals.toArray := (List.extract_toArray ..).trans (congrArg List.toArray (show _ = x.now.c.vals from rfl))
theorem FClnt.lsub20_24 (x : FClnt) : (x.vals.drop 20).take 24 = x.now.c.vals := rfl
theorem FClnt.sub29_10 (x : FClnt) : x.vals.toArray.extract 29 39 = x.now.c.set.vals.toArray := (List.extract_toArray ..).trans (congrArg List.toArray (show _ = x.now.c.set.vals from rfl))
theorem FClnt.lsub29_10 (x : FClnt) : (x.vals.drop 29).take 10 = x.now.c.set.vals := rfl
theorem FClnt.sub29_2 (x : FClnt) : x.vals.toArray.extract 29 31 = x.now.c.set.mode.vals.toArray := (List.extract_toArray ..).trans (congrArg List.toArray (show _ = x.now.c.set.mode.vals from rfl))
theorem FClnt.lsub29_2 (x : FClnt) : (x.vals.drop 29).take 2 = x.now.c.set.mode.vals := rfl
theorem FClnt.sub31_2 (x : FClnt) : x.vals.toArray.extract 31 33 = x.now.c.set.uid.vals.toArray := (List.extract_toArray ..).trans (congrArg List.toArray (show _ = x.now.c.set.uid.vals from rfl))
theorem FClnt.lsub31_2 (x : FClnt) : (x.vals.drop 31).take 2 = x.now.c.set.uid.vals := rfl
theorem FClnt.sub33_2 (x : FClnt) : x.vals.toArray.extract 33 35 = x.now.c.set.gid.vals.toArray := (List.extract_toArray ..).trans (congrArg List.toArray (show _ = x.now.c.set.gid.vals from rfl))
theorem FClnt.lsub33_2 (x : FClnt) : (x.vals.drop 33).take 2 = x.now.c.set.gid.vals := rfl
theorem FClnt.sub35_2 (x : FClnt) : x.vals.toArray.extract 35 37 = x.now.c.set.size.vals.toArray := (List.extract_toArray ..).trans (congrArg List.toArray (show _ = x.now.c.set.size.vals from rfl))
theorem FClnt.lsub35_2 (x : FClnt) : (x.vals.drop 35).take 2 = x.now.c.set.size.vals := rfl
theorem FClnt.sub37_2 (x : FClnt) : x.vals.toArray.extract 37 39 = x.now.c.set.time.vals.toArray := (List.extract_toArray ..).trans (congrArg List.toArray (show _ = x.now.c.set.time.vals from rfl))
theorem FClnt.lsub37_2 (x : FClnt) : (x.vals.drop 37).take 2 = x.now.c.set.time.vals := rfl
theorem FClnt.sub39_2 (x : FClnt) : x.vals.toArray.extract 39 41 = x.now.c.guard.vals.toArray := (List.extract_toArray ..).trans (congrArg List.toArray (show _ = x.now.c.guard.vals from rfl))
theorem FClnt.lsub39_2 (x : FClnt) : (x.vals.drop 39).take 2 = x.now.c.guard.vals := rfl
theorem FClnt.sub48_3 (x : FClnt) : x.vals.toArray.extract 48 51 = x.sent.vals.toArray := (List.extract_toArray ..).trans (congrArg List.toArray (show _ = x.sent.vals from rfl))
theorem FClnt.lsub48_3 (x : FClnt) : (x.vals.drop 48).take 3 = x.sent.vals := rfl
def FClnt.good (x : FClnt) : Prop := (Lit.int .i64 x.id).wf = true ∧ (Lit.int .i64 x.self).wf = true ∧ (Lit.int .i64 x.server).wf = true ∧ x.p0.good ∧ x.p1.good ∧ x.p2.good ∧ x.p3.good ∧ x.tn ≤ maxLen ∧ x.now.good ∧ x.sent.good ∧ (Lit.int .i64 x.due).wf = true ∧ (Lit.int .i64 x.uid).wf = true ∧ (Lit.int .i64 x.gid).wf = true ∧ x.rn ≤ maxLen

structure Step where
  kind : Int
  a : Ask
  p : Packet
  r : Reply
  from_ : Int
  now : Int
def Step.vals (x : Step) : List Value := [.int .i64 x.kind] ++ (x.a.vals ++ (x.p.vals ++ (x.r.vals ++ [.int .i64 x.from_, .int .i64 x.now])))
theorem Step.len (x : Step) : x.vals.length = 94 := rfl
theorem Step.one (x : Step) : ∀ v ∈ x.vals, v.oneCell' = true := by
  intro v hv
  unfold Step.vals at hv
  rcases List.mem_append.1 hv with hv | hv
  · simp only [List.mem_cons, List.not_mem_nil, or_false] at hv
    subst hv; rfl
  · rcases List.mem_append.1 hv with hv | hv
    · exact Ask.one _ v hv
    · rcases List.mem_append.1 hv with hv | hv
      · exact Packet.one _ v hv
      · rcases List.mem_append.1 hv with hv | hv
        · exact Reply.one _ v hv
        · simp only [List.mem_cons, List.not_mem_nil, or_false] at hv
          rcases hv with rfl | rfl <;> rfl
theorem Step.at0 (x : Step) (h : 0 < x.vals.length) : x.vals[0] = .int .i64 x.kind := rfl
theorem Step.lat0 (x : Step) : x.vals[0]? = some (.int .i64 x.kind) := rfl
theorem Step.at1 (x : Step) (h : 1 < x.vals.length) : x.vals[1] = .int .i64 x.a.kind := rfl
theorem Step.lat1 (x : Step) : x.vals[1]? = some (.int .i64 x.a.kind) := rfl
theorem Step.at2 (x : Step) (h : 2 < x.vals.length) : x.vals[2] = .int .i64 x.a.var := rfl
theorem Step.lat2 (x : Step) : x.vals[2]? = some (.int .i64 x.a.var) := rfl
theorem Step.at3 (x : Step) (h : 3 < x.vals.length) : x.vals[3] = .int .i64 x.a.dir := rfl
theorem Step.lat3 (x : Step) : x.vals[3]? = some (.int .i64 x.a.dir) := rfl
theorem Step.at4 (x : Step) (h : 4 < x.vals.length) : x.vals[4] = .int .i64 x.a.to_ := rfl
theorem Step.lat4 (x : Step) : x.vals[4]? = some (.int .i64 x.a.to_) := rfl
theorem Step.at5 (x : Step) (h : 5 < x.vals.length) : x.vals[5] = .int .i64 x.a.uid := rfl
theorem Step.lat5 (x : Step) : x.vals[5]? = some (.int .i64 x.a.uid) := rfl
theorem Step.at6 (x : Step) (h : 6 < x.vals.length) : x.vals[6] = .int .i64 x.a.gid := rfl
theorem Step.lat6 (x : Step) : x.vals[6]? = some (.int .i64 x.a.gid) := rfl
theorem Step.at7 (x : Step) (h : 7 < x.vals.length) : x.vals[7] = .int .i64 x.a.call.proc := rfl
theorem Step.lat7 (x : Step) : x.vals[7]? = some (.int .i64 x.a.call.proc) := rfl
theorem Step.at8 (x : Step) (h : 8 < x.vals.length) : x.vals[8] = .string (bs x.a.call.fh) := rfl
theorem Step.lat8 (x : Step) : x.vals[8]? = some (.string (bs x.a.call.fh)) := rfl
theorem Step.at9 (x : Step) (h : 9 < x.vals.length) : x.vals[9] = .string (bs x.a.call.name) := rfl
theorem Step.lat9 (x : Step) : x.vals[9]? = some (.string (bs x.a.call.name)) := rfl
theorem Step.at10 (x : Step) (h : 10 < x.vals.length) : x.vals[10] = .string (bs x.a.call.fh2) := rfl
theorem Step.lat10 (x : Step) : x.vals[10]? = some (.string (bs x.a.call.fh2)) := rfl
theorem Step.at11 (x : Step) (h : 11 < x.vals.length) : x.vals[11] = .string (bs x.a.call.name2) := rfl
theorem Step.lat11 (x : Step) : x.vals[11]? = some (.string (bs x.a.call.name2)) := rfl
theorem Step.at12 (x : Step) (h : 12 < x.vals.length) : x.vals[12] = .int .i64 x.a.call.offset := rfl
theorem Step.lat12 (x : Step) : x.vals[12]? = some (.int .i64 x.a.call.offset) := rfl
theorem Step.at13 (x : Step) (h : 13 < x.vals.length) : x.vals[13] = .int .i64 x.a.call.count := rfl
theorem Step.lat13 (x : Step) : x.vals[13]? = some (.int .i64 x.a.call.count) := rfl
theorem Step.at14 (x : Step) (h : 14 < x.vals.length) : x.vals[14] = .int .i64 x.a.call.how := rfl
theorem Step.lat14 (x : Step) : x.vals[14]? = some (.int .i64 x.a.call.how) := rfl
theorem Step.at15 (x : Step) (h : 15 < x.vals.length) : x.vals[15] = .string (bs x.a.call.data) := rfl
theorem Step.lat15 (x : Step) : x.vals[15]? = some (.string (bs x.a.call.data)) := rfl
theorem Step.at16 (x : Step) (h : 16 < x.vals.length) : x.vals[16] = .bool x.a.call.set.mode.is := rfl
theorem Step.lat16 (x : Step) : x.vals[16]? = some (.bool x.a.call.set.mode.is) := rfl
theorem Step.at17 (x : Step) (h : 17 < x.vals.length) : x.vals[17] = .int .i64 x.a.call.set.mode.n := rfl
theorem Step.lat17 (x : Step) : x.vals[17]? = some (.int .i64 x.a.call.set.mode.n) := rfl
theorem Step.at18 (x : Step) (h : 18 < x.vals.length) : x.vals[18] = .bool x.a.call.set.uid.is := rfl
theorem Step.lat18 (x : Step) : x.vals[18]? = some (.bool x.a.call.set.uid.is) := rfl
theorem Step.at19 (x : Step) (h : 19 < x.vals.length) : x.vals[19] = .int .i64 x.a.call.set.uid.n := rfl
theorem Step.lat19 (x : Step) : x.vals[19]? = some (.int .i64 x.a.call.set.uid.n) := rfl
theorem Step.at20 (x : Step) (h : 20 < x.vals.length) : x.vals[20] = .bool x.a.call.set.gid.is := rfl
theorem Step.lat20 (x : Step) : x.vals[20]? = some (.bool x.a.call.set.gid.is) := rfl
theorem Step.at21 (x : Step) (h : 21 < x.vals.length) : x.vals[21] = .int .i64 x.a.call.set.gid.n := rfl
theorem Step.lat21 (x : Step) : x.vals[21]? = some (.int .i64 x.a.call.set.gid.n) := rfl
theorem Step.at22 (x : Step) (h : 22 < x.vals.length) : x.vals[22] = .bool x.a.call.set.size.is := rfl
theorem Step.lat22 (x : Step) : x.vals[22]? = some (.bool x.a.call.set.size.is) := rfl
theorem Step.at23 (x : Step) (h : 23 < x.vals.length) : x.vals[23] = .int .i64 x.a.call.set.size.n := rfl
theorem Step.lat23 (x : Step) : x.vals[23]? = some (.int .i64 x.a.call.set.size.n) := rfl
theorem Step.at24 (x : Step) (h : 24 < x.vals.length) : x.vals[24] = .bool x.a.call.set.time.is := rfl
theorem Step.lat24 (x : Step) : x.vals[24]? = some (.bool x.a.call.set.time.is) := rfl
theorem Step.at25 (x : Step) (h : 25 < x.vals.length) : x.vals[25] = .int .i64 x.a.call.set.time.n := rfl
theorem Step.lat25 (x : Step) : x.vals[25]? = some (.int .i64 x.a.call.set.time.n) := rfl
theorem Step.at26 (x : Step) (h : 26 < x.vals.length) : x.vals[26] = .bool x.a.call.guard.is := rfl
theorem Step.lat26 (x : Step) : x.vals[26]? = some (.bool x.a.call.guard.is) := rfl
theorem Step.at27 (x : Step) (h : 27 < x.vals.length) : x.vals[27] = .int .i64 x.a.call.guard.n := rfl
theorem Step.lat27 (x : Step) : x.vals[27]? = some (.int .i64 x.a.call.guard.n) := rfl
theorem Step.at28 (x : Step) (h : 28 < x.vals.length) : x.vals[28] = .int .i64 x.a.call.cookie := rfl
theorem Step.lat28 (x : Step) : x.vals[28]? = some (.int .i64 x.a.call.cookie) := rfl
theorem Step.at29 (x : Step) (h : 29 < x.vals.length) : x.vals[29] = .int .i64 x.a.call.verf := rfl
theorem Step.lat29 (x : Step) : x.vals[29]? = some (.int .i64 x.a.call.verf) := rfl
theorem Step.at30 (x : Step) (h : 30 < x.vals.length) : x.vals[30] = .string (bs x.a.call.text) := rfl
theorem Step.lat30 (x : Step) : x.vals[30]? = some (.string (bs x.a.call.text)) := rfl
theorem Step.at31 (x : Step) (h : 31 < x.vals.length) : x.vals[31] = .int .i64 x.p.from_ := rfl
theorem Step.lat31 (x : Step) : x.vals[31]? = some (.int .i64 x.p.from_) := rfl
theorem Step.at32 (x : Step) (h : 32 < x.vals.length) : x.vals[32] = .int .i64 x.p.to_ := rfl
theorem Step.lat32 (x : Step) : x.vals[32]? = some (.int .i64 x.p.to_) := rfl
theorem Step.at33 (x : Step) (h : 33 < x.vals.length) : x.vals[33] = .string (bs x.p.data) := rfl
theorem Step.lat33 (x : Step) : x.vals[33]? = some (.string (bs x.p.data)) := rfl
theorem Step.at34 (x : Step) (h : 34 < x.vals.length) : x.vals[34] = .int .i64 x.r.status := rfl
theorem Step.lat34 (x : Step) : x.vals[34]? = some (.int .i64 x.r.status) := rfl
theorem Step.at35 (x : Step) (h : 35 < x.vals.length) : x.vals[35] = .string (bs x.r.fh) := rfl
theorem Step.lat35 (x : Step) : x.vals[35]? = some (.string (bs x.r.fh)) := rfl
theorem Step.at36 (x : Step) (h : 36 < x.vals.length) : x.vals[36] = .bool x.r.obj.is := rfl
theorem Step.lat36 (x : Step) : x.vals[36]? = some (.bool x.r.obj.is) := rfl
theorem Step.at37 (x : Step) (h : 37 < x.vals.length) : x.vals[37] = .int .i64 x.r.obj.attr.type := rfl
theorem Step.lat37 (x : Step) : x.vals[37]? = some (.int .i64 x.r.obj.attr.type) := rfl
theorem Step.at38 (x : Step) (h : 38 < x.vals.length) : x.vals[38] = .int .i64 x.r.obj.attr.mode := rfl
theorem Step.lat38 (x : Step) : x.vals[38]? = some (.int .i64 x.r.obj.attr.mode) := rfl
theorem Step.at39 (x : Step) (h : 39 < x.vals.length) : x.vals[39] = .int .i64 x.r.obj.attr.nlink := rfl
theorem Step.lat39 (x : Step) : x.vals[39]? = some (.int .i64 x.r.obj.attr.nlink) := rfl
theorem Step.at40 (x : Step) (h : 40 < x.vals.length) : x.vals[40] = .int .i64 x.r.obj.attr.uid := rfl
theorem Step.lat40 (x : Step) : x.vals[40]? = some (.int .i64 x.r.obj.attr.uid) := rfl
theorem Step.at41 (x : Step) (h : 41 < x.vals.length) : x.vals[41] = .int .i64 x.r.obj.attr.gid := rfl
theorem Step.lat41 (x : Step) : x.vals[41]? = some (.int .i64 x.r.obj.attr.gid) := rfl
theorem Step.at42 (x : Step) (h : 42 < x.vals.length) : x.vals[42] = .int .i64 x.r.obj.attr.size := rfl
theorem Step.lat42 (x : Step) : x.vals[42]? = some (.int .i64 x.r.obj.attr.size) := rfl
theorem Step.at43 (x : Step) (h : 43 < x.vals.length) : x.vals[43] = .int .i64 x.r.obj.attr.id := rfl
theorem Step.lat43 (x : Step) : x.vals[43]? = some (.int .i64 x.r.obj.attr.id) := rfl
theorem Step.at44 (x : Step) (h : 44 < x.vals.length) : x.vals[44] = .int .i64 x.r.obj.attr.gen := rfl
theorem Step.lat44 (x : Step) : x.vals[44]? = some (.int .i64 x.r.obj.attr.gen) := rfl
theorem Step.at45 (x : Step) (h : 45 < x.vals.length) : x.vals[45] = .int .i64 x.r.obj.attr.change := rfl
theorem Step.lat45 (x : Step) : x.vals[45]? = some (.int .i64 x.r.obj.attr.change) := rfl
theorem Step.at46 (x : Step) (h : 46 < x.vals.length) : x.vals[46] = .int .i64 x.r.obj.attr.time := rfl
theorem Step.lat46 (x : Step) : x.vals[46]? = some (.int .i64 x.r.obj.attr.time) := rfl
theorem Step.at47 (x : Step) (h : 47 < x.vals.length) : x.vals[47] = .bool x.r.dir.is := rfl
theorem Step.lat47 (x : Step) : x.vals[47]? = some (.bool x.r.dir.is) := rfl
theorem Step.at48 (x : Step) (h : 48 < x.vals.length) : x.vals[48] = .int .i64 x.r.dir.attr.type := rfl
theorem Step.lat48 (x : Step) : x.vals[48]? = some (.int .i64 x.r.dir.attr.type) := rfl
theorem Step.at49 (x : Step) (h : 49 < x.vals.length) : x.vals[49] = .int .i64 x.r.dir.attr.mode := rfl
theorem Step.lat49 (x : Step) : x.vals[49]? = some (.int .i64 x.r.dir.attr.mode) := rfl
theorem Step.at50 (x : Step) (h : 50 < x.vals.length) : x.vals[50] = .int .i64 x.r.dir.attr.nlink := rfl
theorem Step.lat50 (x : Step) : x.vals[50]? = some (.int .i64 x.r.dir.attr.nlink) := rfl
theorem Step.at51 (x : Step) (h : 51 < x.vals.length) : x.vals[51] = .int .i64 x.r.dir.attr.uid := rfl
theorem Step.lat51 (x : Step) : x.vals[51]? = some (.int .i64 x.r.dir.attr.uid) := rfl
theorem Step.at52 (x : Step) (h : 52 < x.vals.length) : x.vals[52] = .int .i64 x.r.dir.attr.gid := rfl
theorem Step.lat52 (x : Step) : x.vals[52]? = some (.int .i64 x.r.dir.attr.gid) := rfl
theorem Step.at53 (x : Step) (h : 53 < x.vals.length) : x.vals[53] = .int .i64 x.r.dir.attr.size := rfl
theorem Step.lat53 (x : Step) : x.vals[53]? = some (.int .i64 x.r.dir.attr.size) := rfl
theorem Step.at54 (x : Step) (h : 54 < x.vals.length) : x.vals[54] = .int .i64 x.r.dir.attr.id := rfl
theorem Step.lat54 (x : Step) : x.vals[54]? = some (.int .i64 x.r.dir.attr.id) := rfl
theorem Step.at55 (x : Step) (h : 55 < x.vals.length) : x.vals[55] = .int .i64 x.r.dir.attr.gen := rfl
theorem Step.lat55 (x : Step) : x.vals[55]? = some (.int .i64 x.r.dir.attr.gen) := rfl
theorem Step.at56 (x : Step) (h : 56 < x.vals.length) : x.vals[56] = .int .i64 x.r.dir.attr.change := rfl
theorem Step.lat56 (x : Step) : x.vals[56]? = some (.int .i64 x.r.dir.attr.change) := rfl
theorem Step.at57 (x : Step) (h : 57 < x.vals.length) : x.vals[57] = .int .i64 x.r.dir.attr.time := rfl
theorem Step.lat57 (x : Step) : x.vals[57]? = some (.int .i64 x.r.dir.attr.time) := rfl
theorem Step.at58 (x : Step) (h : 58 < x.vals.length) : x.vals[58] = .bool x.r.wcc.before.is := rfl
theorem Step.lat58 (x : Step) : x.vals[58]? = some (.bool x.r.wcc.before.is) := rfl
theorem Step.at59 (x : Step) (h : 59 < x.vals.length) : x.vals[59] = .int .i64 x.r.wcc.before.n := rfl
theorem Step.lat59 (x : Step) : x.vals[59]? = some (.int .i64 x.r.wcc.before.n) := rfl
theorem Step.at60 (x : Step) (h : 60 < x.vals.length) : x.vals[60] = .bool x.r.wcc.after.is := rfl
theorem Step.lat60 (x : Step) : x.vals[60]? = some (.bool x.r.wcc.after.is) := rfl
theorem Step.at61 (x : Step) (h : 61 < x.vals.length) : x.vals[61] = .int .i64 x.r.wcc.after.attr.type := rfl
theorem Step.lat61 (x : Step) : x.vals[61]? = some (.int .i64 x.r.wcc.after.attr.type) := rfl
theorem Step.at62 (x : Step) (h : 62 < x.vals.length) : x.vals[62] = .int .i64 x.r.wcc.after.attr.mode := rfl
theorem Step.lat62 (x : Step) : x.vals[62]? = some (.int .i64 x.r.wcc.after.attr.mode) := rfl
theorem Step.at63 (x : Step) (h : 63 < x.vals.length) : x.vals[63] = .int .i64 x.r.wcc.after.attr.nlink := rfl
theorem Step.lat63 (x : Step) : x.vals[63]? = some (.int .i64 x.r.wcc.after.attr.nlink) := rfl
theorem Step.at64 (x : Step) (h : 64 < x.vals.length) : x.vals[64] = .int .i64 x.r.wcc.after.attr.uid := rfl
theorem Step.lat64 (x : Step) : x.vals[64]? = some (.int .i64 x.r.wcc.after.attr.uid) := rfl
theorem Step.at65 (x : Step) (h : 65 < x.vals.length) : x.vals[65] = .int .i64 x.r.wcc.after.attr.gid := rfl
theorem Step.lat65 (x : Step) : x.vals[65]? = some (.int .i64 x.r.wcc.after.attr.gid) := rfl
theorem Step.at66 (x : Step) (h : 66 < x.vals.length) : x.vals[66] = .int .i64 x.r.wcc.after.attr.size := rfl
theorem Step.lat66 (x : Step) : x.vals[66]? = some (.int .i64 x.r.wcc.after.attr.size) := rfl
theorem Step.at67 (x : Step) (h : 67 < x.vals.length) : x.vals[67] = .int .i64 x.r.wcc.after.attr.id := rfl
theorem Step.lat67 (x : Step) : x.vals[67]? = some (.int .i64 x.r.wcc.after.attr.id) := rfl
theorem Step.at68 (x : Step) (h : 68 < x.vals.length) : x.vals[68] = .int .i64 x.r.wcc.after.attr.gen := rfl
theorem Step.lat68 (x : Step) : x.vals[68]? = some (.int .i64 x.r.wcc.after.attr.gen) := rfl
theorem Step.at69 (x : Step) (h : 69 < x.vals.length) : x.vals[69] = .int .i64 x.r.wcc.after.attr.change := rfl
theorem Step.lat69 (x : Step) : x.vals[69]? = some (.int .i64 x.r.wcc.after.attr.change) := rfl
theorem Step.at70 (x : Step) (h : 70 < x.vals.length) : x.vals[70] = .int .i64 x.r.wcc.after.attr.time := rfl
theorem Step.lat70 (x : Step) : x.vals[70]? = some (.int .i64 x.r.wcc.after.attr.time) := rfl
theorem Step.at71 (x : Step) (h : 71 < x.vals.length) : x.vals[71] = .bool x.r.wcc2.before.is := rfl
theorem Step.lat71 (x : Step) : x.vals[71]? = some (.bool x.r.wcc2.before.is) := rfl
theorem Step.at72 (x : Step) (h : 72 < x.vals.length) : x.vals[72] = .int .i64 x.r.wcc2.before.n := rfl
theorem Step.lat72 (x : Step) : x.vals[72]? = some (.int .i64 x.r.wcc2.before.n) := rfl
theorem Step.at73 (x : Step) (h : 73 < x.vals.length) : x.vals[73] = .bool x.r.wcc2.after.is := rfl
theorem Step.lat73 (x : Step) : x.vals[73]? = some (.bool x.r.wcc2.after.is) := rfl
theorem Step.at74 (x : Step) (h : 74 < x.vals.length) : x.vals[74] = .int .i64 x.r.wcc2.after.attr.type := rfl
theorem Step.lat74 (x : Step) : x.vals[74]? = some (.int .i64 x.r.wcc2.after.attr.type) := rfl
theorem Step.at75 (x : Step) (h : 75 < x.vals.length) : x.vals[75] = .int .i64 x.r.wcc2.after.attr.mode := rfl
theorem Step.lat75 (x : Step) : x.vals[75]? = some (.int .i64 x.r.wcc2.after.attr.mode) := rfl
theorem Step.at76 (x : Step) (h : 76 < x.vals.length) : x.vals[76] = .int .i64 x.r.wcc2.after.attr.nlink := rfl
theorem Step.lat76 (x : Step) : x.vals[76]? = some (.int .i64 x.r.wcc2.after.attr.nlink) := rfl
theorem Step.at77 (x : Step) (h : 77 < x.vals.length) : x.vals[77] = .int .i64 x.r.wcc2.after.attr.uid := rfl
theorem Step.lat77 (x : Step) : x.vals[77]? = some (.int .i64 x.r.wcc2.after.attr.uid) := rfl
theorem Step.at78 (x : Step) (h : 78 < x.vals.length) : x.vals[78] = .int .i64 x.r.wcc2.after.attr.gid := rfl
theorem Step.lat78 (x : Step) : x.vals[78]? = some (.int .i64 x.r.wcc2.after.attr.gid) := rfl
theorem Step.at79 (x : Step) (h : 79 < x.vals.length) : x.vals[79] = .int .i64 x.r.wcc2.after.attr.size := rfl
theorem Step.lat79 (x : Step) : x.vals[79]? = some (.int .i64 x.r.wcc2.after.attr.size) := rfl
theorem Step.at80 (x : Step) (h : 80 < x.vals.length) : x.vals[80] = .int .i64 x.r.wcc2.after.attr.id := rfl
theorem Step.lat80 (x : Step) : x.vals[80]? = some (.int .i64 x.r.wcc2.after.attr.id) := rfl
theorem Step.at81 (x : Step) (h : 81 < x.vals.length) : x.vals[81] = .int .i64 x.r.wcc2.after.attr.gen := rfl
theorem Step.lat81 (x : Step) : x.vals[81]? = some (.int .i64 x.r.wcc2.after.attr.gen) := rfl
theorem Step.at82 (x : Step) (h : 82 < x.vals.length) : x.vals[82] = .int .i64 x.r.wcc2.after.attr.change := rfl
theorem Step.lat82 (x : Step) : x.vals[82]? = some (.int .i64 x.r.wcc2.after.attr.change) := rfl
theorem Step.at83 (x : Step) (h : 83 < x.vals.length) : x.vals[83] = .int .i64 x.r.wcc2.after.attr.time := rfl
theorem Step.lat83 (x : Step) : x.vals[83]? = some (.int .i64 x.r.wcc2.after.attr.time) := rfl
theorem Step.at84 (x : Step) (h : 84 < x.vals.length) : x.vals[84] = .int .i64 x.r.access := rfl
theorem Step.lat84 (x : Step) : x.vals[84]? = some (.int .i64 x.r.access) := rfl
theorem Step.at85 (x : Step) (h : 85 < x.vals.length) : x.vals[85] = .int .i64 x.r.count := rfl
theorem Step.lat85 (x : Step) : x.vals[85]? = some (.int .i64 x.r.count) := rfl
theorem Step.at86 (x : Step) (h : 86 < x.vals.length) : x.vals[86] = .bool x.r.eof := rfl
theorem Step.lat86 (x : Step) : x.vals[86]? = some (.bool x.r.eof) := rfl
theorem Step.at87 (x : Step) (h : 87 < x.vals.length) : x.vals[87] = .string (bs x.r.data) := rfl
theorem Step.lat87 (x : Step) : x.vals[87]? = some (.string (bs x.r.data)) := rfl
theorem Step.at88 (x : Step) (h : 88 < x.vals.length) : x.vals[88] = .int .i64 x.r.stable := rfl
theorem Step.lat88 (x : Step) : x.vals[88]? = some (.int .i64 x.r.stable) := rfl
theorem Step.at89 (x : Step) (h : 89 < x.vals.length) : x.vals[89] = .int .i64 x.r.verf := rfl
theorem Step.lat89 (x : Step) : x.vals[89]? = some (.int .i64 x.r.verf) := rfl
theorem Step.at90 (x : Step) (h : 90 < x.vals.length) : x.vals[90] = .slice x.r.ea x.r.en x.r.ec := rfl
theorem Step.lat90 (x : Step) : x.vals[90]? = some (.slice x.r.ea x.r.en x.r.ec) := rfl
theorem Step.at91 (x : Step) (h : 91 < x.vals.length) : x.vals[91] = .slice x.r.ua x.r.un x.r.uc := rfl
theorem Step.lat91 (x : Step) : x.vals[91]? = some (.slice x.r.ua x.r.un x.r.uc) := rfl
theorem Step.at92 (x : Step) (h : 92 < x.vals.length) : x.vals[92] = .int .i64 x.from_ := rfl
theorem Step.lat92 (x : Step) : x.vals[92]? = some (.int .i64 x.from_) := rfl
theorem Step.at93 (x : Step) (h : 93 < x.vals.length) : x.vals[93] = .int .i64 x.now := rfl
theorem Step.lat93 (x : Step) : x.vals[93]? = some (.int .i64 x.now) := rfl
theorem Step.sub0_94 (x : Step) : x.vals.toArray.extract 0 94 = x.vals.toArray := (List.extract_toArray ..).trans (congrArg List.toArray (show _ = x.vals from rfl))
theorem Step.lsub0_94 (x : Step) : x.vals.take 94 = x.vals := rfl
theorem Step.sub1_30 (x : Step) : x.vals.toArray.extract 1 31 = x.a.vals.toArray := (List.extract_toArray ..).trans (congrArg List.toArray (show _ = x.a.vals from rfl))
theorem Step.lsub1_30 (x : Step) : x.vals.tail.take 30 = x.a.vals := rfl
theorem Step.sub7_24 (x : Step) : x.vals.toArray.extract 7 31 = x.a.call.vals.toArray := (List.extract_toArray ..).trans (congrArg List.toArray (show _ = x.a.call.vals from rfl))
theorem Step.lsub7_24 (x : Step) : (x.vals.drop 7).take 24 = x.a.call.vals := rfl
theorem Step.sub16_10 (x : Step) : x.vals.toArray.extract 16 26 = x.a.call.set.vals.toArray := (List.extract_toArray ..).trans (congrArg List.toArray (show _ = x.a.call.set.vals from rfl))
theorem Step.lsub16_10 (x : Step) : (x.vals.drop 16).take 10 = x.a.call.set.vals := rfl
theorem Step.sub16_2 (x : Step) : x.vals.toArray.extract 16 18 = x.a.call.set.mode.vals.toArray := (List.extract_toArray ..).trans (congrArg List.toArray (show _ = x.a.call.set.mode.vals from rfl))
theorem Step.lsub16_2 (x : Step) : (x.vals.drop 16).take 2 = x.a.call.set.mode.vals := rfl
theorem Step.sub18_2 (x : Step) : x.vals.toArray.extract 18 20 = x.a.call.set.uid.vals.toArray := (List.extract_toArray ..).trans (congrArg List.toArray (show _ = x.a.call.set.uid.vals from rfl))
theorem Step.lsub18_2 (x : Step) : (x.vals.drop 18).take 2 = x.a.call.set.uid.vals := rfl
theorem Step.sub20_2 (x : Step) : x.vals.toArray.extract 20 22 = x.a.call.set.gid.vals.toArray := (List.extract_toArray ..).trans (congrArg List.toArray (show _ = x.a.call.set.gid.vals from rfl))
theorem Step.lsub20_2 (x : Step) : (x.vals.drop 20).take 2 = x.a.call.set.gid.vals := rfl
theorem Step.sub22_2 (x : Step) : x.vals.toArray.extract 22 24 = x.a.call.set.size.vals.toArray := (List.extract_toArray ..).trans (congrArg List.toArray (show _ = x.a.call.set.size.vals from rfl))
theorem Step.lsub22_2 (x : Step) : (x.vals.drop 22).take 2 = x.a.call.set.size.vals := rfl
theorem Step.sub24_2 (x : Step) : x.vals.toArray.extract 24 26 = x.a.call.set.time.vals.toArray := (List.extract_toArray ..).trans (congrArg List.toArray (show _ = x.a.call.set.time.vals from rfl))
theorem Step.lsub24_2 (x : Step) : (x.vals.drop 24).take 2 = x.a.call.set.time.vals := rfl
theorem Step.sub26_2 (x : Step) : x.vals.toArray.extract 26 28 = x.a.call.guard.vals.toArray := (List.extract_toArray ..).trans (congrArg List.toArray (show _ = x.a.call.guard.vals from rfl))
theorem Step.lsub26_2 (x : Step) : (x.vals.drop 26).take 2 = x.a.call.guard.vals := rfl
theorem Step.sub31_3 (x : Step) : x.vals.toArray.extract 31 34 = x.p.vals.toArray := (List.extract_toArray ..).trans (congrArg List.toArray (show _ = x.p.vals from rfl))
theorem Step.lsub31_3 (x : Step) : (x.vals.drop 31).take 3 = x.p.vals := rfl
theorem Step.sub34_58 (x : Step) : x.vals.toArray.extract 34 92 = x.r.vals.toArray := (List.extract_toArray ..).trans (congrArg List.toArray (show _ = x.r.vals from rfl))
theorem Step.lsub34_58 (x : Step) : (x.vals.drop 34).take 58 = x.r.vals := rfl
theorem Step.sub36_11 (x : Step) : x.vals.toArray.extract 36 47 = x.r.obj.vals.toArray := (List.extract_toArray ..).trans (congrArg List.toArray (show _ = x.r.obj.vals from rfl))
theorem Step.lsub36_11 (x : Step) : (x.vals.drop 36).take 11 = x.r.obj.vals := rfl
theorem Step.sub37_10 (x : Step) : x.vals.toArray.extract 37 47 = x.r.obj.attr.vals.toArray := (List.extract_toArray ..).trans (congrArg List.toArray (show _ = x.r.obj.attr.vals from rfl))
theorem Step.lsub37_10 (x : Step) : (x.vals.drop 37).take 10 = x.r.obj.attr.vals := rfl
theorem Step.sub47_11 (x : Step) : x.vals.toArray.extract 47 58 = x.r.dir.vals.toArray := (List.extract_toArray ..).trans (congrArg List.toArray (show _ = x.r.dir.vals from rfl))
theorem Step.lsub47_11 (x : Step) : (x.vals.drop 47).take 11 = x.r.dir.vals := rfl
theorem Step.sub48_10 (x : Step) : x.vals.toArray.extract 48 58 = x.r.dir.attr.vals.toArray := (List.extract_toArray ..).trans (congrArg List.toArray (show _ = x.r.dir.attr.vals from rfl))
theorem Step.lsub48_10 (x : Step) : (x.vals.drop 48).take 10 = x.r.dir.attr.vals := rfl
theorem Step.sub58_13 (x : Step) : x.vals.toArray.extract 58 71 = x.r.wcc.vals.toArray := (List.extract_toArray ..).trans (congrArg List.toArray (show _ = x.r.wcc.vals from rfl))
theorem Step.lsub58_13 (x : Step) : (x.vals.drop 58).take 13 = x.r.wcc.vals := rfl
theorem Step.sub58_2 (x : Step) : x.vals.toArray.extract 58 60 = x.r.wcc.before.vals.toArray := (List.extract_toArray ..).trans (congrArg List.toArray (show _ = x.r.wcc.before.vals from rfl))
theorem Step.lsub58_2 (x : Step) : (x.vals.drop 58).take 2 = x.r.wcc.before.vals := rfl
theorem Step.sub60_11 (x : Step) : x.vals.toArray.extract 60 71 = x.r.wcc.after.vals.toArray := (List.extract_toArray ..).trans (congrArg List.toArray (show _ = x.r.wcc.after.vals from rfl))
theorem Step.lsub60_11 (x : Step) : (x.vals.drop 60).take 11 = x.r.wcc.after.vals := rfl
theorem Step.sub61_10 (x : Step) : x.vals.toArray.extract 61 71 = x.r.wcc.after.attr.vals.toArray := (List.extract_toArray ..).trans (congrArg List.toArray (show _ = x.r.wcc.after.attr.vals from rfl))
theorem Step.lsub61_10 (x : Step) : (x.vals.drop 61).take 10 = x.r.wcc.after.attr.vals := rfl
theorem Step.sub71_13 (x : Step) : x.vals.toArray.extract 71 84 = x.r.wcc2.vals.toArray := (List.extract_toArray ..).trans (congrArg List.toArray (show _ = x.r.wcc2.vals from rfl))
theorem Step.lsub71_13 (x : Step) : (x.vals.drop 71).take 13 = x.r.wcc2.vals := rfl
theorem Step.sub71_2 (x : Step) : x.vals.toArray.extract 71 73 = x.r.wcc2.before.vals.toArray := (List.extract_toArray ..).trans (congrArg List.toArray (show _ = x.r.wcc2.before.vals from rfl))
theorem Step.lsub71_2 (x : Step) : (x.vals.drop 71).take 2 = x.r.wcc2.before.vals := rfl
theorem Step.sub73_11 (x : Step) : x.vals.toArray.extract 73 84 = x.r.wcc2.after.vals.toArray := (List.extract_toArray ..).trans (congrArg List.toArray (show _ = x.r.wcc2.after.vals from rfl))
theorem Step.lsub73_11 (x : Step) : (x.vals.drop 73).take 11 = x.r.wcc2.after.vals := rfl
theorem Step.sub74_10 (x : Step) : x.vals.toArray.extract 74 84 = x.r.wcc2.after.attr.vals.toArray := (List.extract_toArray ..).trans (congrArg List.toArray (show _ = x.r.wcc2.after.attr.vals from rfl))
theorem Step.lsub74_10 (x : Step) : (x.vals.drop 74).take 10 = x.r.wcc2.after.attr.vals := rfl
def Step.good (x : Step) : Prop := (Lit.int .i64 x.kind).wf = true ∧ x.a.good ∧ x.p.good ∧ x.r.good ∧ (Lit.int .i64 x.from_).wf = true ∧ (Lit.int .i64 x.now).wf = true

end Go.Proofs.YtfjflkmhhbhceaaGreatDoor
