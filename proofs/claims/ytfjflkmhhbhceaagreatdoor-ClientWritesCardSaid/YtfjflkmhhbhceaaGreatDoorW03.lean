/-
  The data of calls, messages, entries and changes as plain structures, and the cells that each takes (written by wip/tools/structs.py). No condition.
-/
import Derived.Test.YtfjflkmhhbhceaaGreatDoorW02
import Derived.Deep.AppendLies
import Derived.Lib.AppendStr
import Derived.Maps.AppendAt
namespace Go.Proofs.YtfjflkmhhbhceaaGreatDoor
open Go.RowKit

structure Cred where
  client : Int
  seq : Int
  uid : Int
  gid : Int
  deriving DecidableEq
def Cred.vals (x : Cred) : List Value := [.int .i64 x.client, .int .i64 x.seq, .int .i64 x.uid, .int .i64 x.gid]
theorem Cred.len (x : Cred) : x.vals.length = 4 := rfl
theorem Cred.one (x : Cred) : ∀ v ∈ x.vals, v.oneCell' = true := by
  intro v hv
  unfold Cred.vals at hv
  simp only [List.mem_cons, List.not_mem_nil, or_false] at hv
  rcases hv with rfl | rfl | rfl | rfl <;> rfl
theorem Cred.at0 (x : Cred) (h : 0 < x.vals.length) : x.vals[0] = .int .i64 x.client := rfl
theorem Cred.lat0 (x : Cred) : x.vals[0]? = some (.int .i64 x.client) := rfl
theorem Cred.at1 (x : Cred) (h : 1 < x.vals.length) : x.vals[1] = .int .i64 x.seq := rfl
theorem Cred.lat1 (x : Cred) : x.vals[1]? = some (.int .i64 x.seq) := rfl
theorem Cred.at2 (x : Cred) (h : 2 < x.vals.length) : x.vals[2] = .int .i64 x.uid := rfl
theorem Cred.lat2 (x : Cred) : x.vals[2]? = some (.int .i64 x.uid) := rfl
theorem Cred.at3 (x : Cred) (h : 3 < x.vals.length) : x.vals[3] = .int .i64 x.gid := rfl
theorem Cred.lat3 (x : Cred) : x.vals[3]? = some (.int .i64 x.gid) := rfl
theorem Cred.sub0_4 (x : Cred) : x.vals.toArray.extract 0 4 = x.vals.toArray := (List.extract_toArray ..).trans (congrArg List.toArray (show _ = x.vals from rfl))
theorem Cred.lsub0_4 (x : Cred) : x.vals.take 4 = x.vals := rfl
def Cred.good (x : Cred) : Prop := (Lit.int .i64 x.client).wf = true ∧ (Lit.int .i64 x.seq).wf = true ∧ (Lit.int .i64 x.uid).wf = true ∧ (Lit.int .i64 x.gid).wf = true

structure Parts where
  kind : Int
  a : Int
  b : Int
  deriving DecidableEq
def Parts.vals (x : Parts) : List Value := [.int .i64 x.kind, .int .i64 x.a, .int .i64 x.b]
theorem Parts.len (x : Parts) : x.vals.length = 3 := rfl
theorem Parts.one (x : Parts) : ∀ v ∈ x.vals, v.oneCell' = true := by
  intro v hv
  unfold Parts.vals at hv
  simp only [List.mem_cons, List.not_mem_nil, or_false] at hv
  rcases hv with rfl | rfl | rfl <;> rfl
theorem Parts.at0 (x : Parts) (h : 0 < x.vals.length) : x.vals[0] = .int .i64 x.kind := rfl
theorem Parts.lat0 (x : Parts) : x.vals[0]? = some (.int .i64 x.kind) := rfl
theorem Parts.at1 (x : Parts) (h : 1 < x.vals.length) : x.vals[1] = .int .i64 x.a := rfl
theorem Parts.lat1 (x : Parts) : x.vals[1]? = some (.int .i64 x.a) := rfl
theorem Parts.at2 (x : Parts) (h : 2 < x.vals.length) : x.vals[2] = .int .i64 x.b := rfl
theorem Parts.lat2 (x : Parts) : x.vals[2]? = some (.int .i64 x.b) := rfl
theorem Parts.sub0_3 (x : Parts) : x.vals.toArray.extract 0 3 = x.vals.toArray := (List.extract_toArray ..).trans (congrArg List.toArray (show _ = x.vals from rfl))
theorem Parts.lsub0_3 (x : Parts) : x.vals.take 3 = x.vals := rfl
def Parts.good (x : Parts) : Prop := (Lit.int .i64 x.kind).wf = true ∧ (Lit.int .i64 x.a).wf = true ∧ (Lit.int .i64 x.b).wf = true

structure Entry where
  gen : Int
  name : List UInt8
  cookie : Int
  attr : Post
  fh : List UInt8
  deriving DecidableEq
def Entry.vals (x : Entry) : List Value := [.int .i64 x.gen, .string (bs x.name), .int .i64 x.cookie] ++ (x.attr.vals ++ [.string (bs x.fh)])
theorem Entry.len (x : Entry) : x.vals.length = 15 := rfl
theorem Entry.one (x : Entry) : ∀ v ∈ x.vals, v.oneCell' = true := by
  intro v hv
  unfold Entry.vals at hv
  rcases List.mem_append.1 hv with hv | hv
  · simp only [List.mem_cons, List.not_mem_nil, or_false] at hv
    rcases hv with rfl | rfl | rfl <;> rfl
  · rcases List.mem_append.1 hv with hv | hv
    · exact Post.one _ v hv
    · simp only [List.mem_cons, List.not_mem_nil, or_false] at hv
      subst hv; rfl
theorem Entry.at0 (x : Entry) (h : 0 < x.vals.length) : x.vals[0] = .int .i64 x.gen := rfl
theorem Entry.lat0 (x : Entry) : x.vals[0]? = some (.int .i64 x.gen) := rfl
theorem Entry.at1 (x : Entry) (h : 1 < x.vals.length) : x.vals[1] = .string (bs x.name) := rfl
theorem Entry.lat1 (x : Entry) : x.vals[1]? = some (.string (bs x.name)) := rfl
theorem Entry.at2 (x : Entry) (h : 2 < x.vals.length) : x.vals[2] = .int .i64 x.cookie := rfl
theorem Entry.lat2 (x : Entry) : x.vals[2]? = some (.int .i64 x.cookie) := rfl
theorem Entry.at3 (x : Entry) (h : 3 < x.vals.length) : x.vals[3] = .bool x.attr.is := rfl
theorem Entry.lat3 (x : Entry) : x.vals[3]? = some (.bool x.attr.is) := rfl
theorem Entry.at4 (x : Entry) (h : 4 < x.vals.length) : x.vals[4] = .int .i64 x.attr.attr.type := rfl
theorem Entry.lat4 (x : Entry) : x.vals[4]? = some (.int .i64 x.attr.attr.type) := rfl
theorem Entry.at5 (x : Entry) (h : 5 < x.vals.length) : x.vals[5] = .int .i64 x.attr.attr.mode := rfl
theorem Entry.lat5 (x : Entry) : x.vals[5]? = some (.int .i64 x.attr.attr.mode) := rfl
theorem Entry.at6 (x : Entry) (h : 6 < x.vals.length) : x.vals[6] = .int .i64 x.attr.attr.nlink := rfl
theorem Entry.lat6 (x : Entry) : x.vals[6]? = some (.int .i64 x.attr.attr.nlink) := rfl
theorem Entry.at7 (x : Entry) (h : 7 < x.vals.length) : x.vals[7] = .int .i64 x.attr.attr.uid := rfl
theorem Entry.lat7 (x : Entry) : x.vals[7]? = some (.int .i64 x.attr.attr.uid) := rfl
theorem Entry.at8 (x : Entry) (h : 8 < x.vals.length) : x.vals[8] = .int .i64 x.attr.attr.gid := rfl
theorem Entry.lat8 (x : Entry) : x.vals[8]? = some (.int .i64 x.attr.attr.gid) := rfl
theorem Entry.at9 (x : Entry) (h : 9 < x.vals.length) : x.vals[9] = .int .i64 x.attr.attr.size := rfl
theorem Entry.lat9 (x : Entry) : x.vals[9]? = some (.int .i64 x.attr.attr.size) := rfl
theorem Entry.at10 (x : Entry) (h : 10 < x.vals.length) : x.vals[10] = .int .i64 x.attr.attr.id := rfl
theorem Entry.lat10 (x : Entry) : x.vals[10]? = some (.int .i64 x.attr.attr.id) := rfl
theorem Entry.at11 (x : Entry) (h : 11 < x.vals.length) : x.vals[11] = .int .i64 x.attr.attr.gen := rfl
theorem Entry.lat11 (x : Entry) : x.vals[11]? = some (.int .i64 x.attr.attr.gen) := rfl
theorem Entry.at12 (x : Entry) (h : 12 < x.vals.length) : x.vals[12] = .int .i64 x.attr.attr.change := rfl
theorem Entry.lat12 (x : Entry) : x.vals[12]? = some (.int .i64 x.attr.attr.change) := rfl
theorem Entry.at13 (x : Entry) (h : 13 < x.vals.length) : x.vals[13] = .int .i64 x.attr.attr.time := rfl
theorem Entry.lat13 (x : Entry) : x.vals[13]? = some (.int .i64 x.attr.attr.time) := rfl
theorem Entry.at14 (x : Entry) (h : 14 < x.vals.length) : x.vals[14] = .string (bs x.fh) := rfl
theorem Entry.lat14 (x : Entry) : x.vals[14]? = some (.string (bs x.fh)) := rfl
theorem Entry.sub0_15 (x : Entry) : x.vals.toArray.extract 0 15 = x.vals.toArray := (List.extract_toArray ..).trans (congrArg List.toArray (show _ = x.vals from rfl))
theorem Entry.lsub0_15 (x : Entry) : x.vals.take 15 = x.vals := rfl
theorem Entry.sub3_11 (x : Entry) : x.vals.toArray.extract 3 14 = x.attr.vals.toArray := (List.extract_toArray ..).trans (congrArg List.toArray (show _ = x.attr.vals from rfl))
theorem Entry.lsub3_11 (x : Entry) : (x.vals.drop 3).take 11 = x.attr.vals := rfl
theorem Entry.sub4_10 (x : Entry) : x.vals.toArray.extract 4 14 = x.attr.attr.vals.toArray := (List.extract_toArray ..).trans (congrArg List.toArray (show _ = x.attr.attr.vals from rfl))
theorem Entry.lsub4_10 (x : Entry) : (x.vals.drop 4).take 10 = x.attr.attr.vals := rfl
def Entry.good (x : Entry) : Prop := (Lit.int .i64 x.gen).wf = true ∧ x.name.length ≤ maxLen ∧ (Lit.int .i64 x.cookie).wf = true ∧ x.attr.good ∧ x.fh.length ≤ maxLen

structure Call where
  proc : Int
  fh : List UInt8
  name : List UInt8
  fh2 : List UInt8
  name2 : List UInt8
  offset : Int
  count : Int
  how : Int
  data : List UInt8
  set : Sett
  guard : Opt
  cookie : Int
  verf : Int
  text : List UInt8
  deriving DecidableEq
def Call.vals (x : Call) : List Value := [.int .i64 x.proc, .string (bs x.fh), .string (bs x.name), .string (bs x.fh2), .string (bs x.name2), .int .i64 x.offset, .int .i64 x.count, .int .i64 x.how, .string (bs x.data)] ++ (x.set.vals ++ (x.guard.vals ++ [.int .i64 x.cookie, .int .i64 x.verf, .string (bs x.text)]))
theorem Call.len (x : Call) : x.vals.length = 24 := rfl
theorem Call.one (x : Call) : ∀ v ∈ x.vals, v.oneCell' = true := by
  intro v hv
  unfold Call.vals at hv
  rcases List.mem_append.1 hv with hv | hv
  · simp only [List.mem_cons, List.not_mem_nil, or_false] at hv
    rcases hv with rfl | rfl | rfl | rfl | rfl | rfl | rfl | rfl | rfl <;> rfl
  · rcases List.mem_append.1 hv with hv | hv
    · exact Sett.one _ v hv
    · rcases List.mem_append.1 hv with hv | hv
      · exact Opt.one _ v hv
      · simp only [List.mem_cons, List.not_mem_nil, or_false] at hv
        rcases hv with rfl | rfl | rfl <;> rfl
theorem Call.at0 (x : Call) (h : 0 < x.vals.length) : x.vals[0] = .int .i64 x.proc := rfl
theorem Call.lat0 (x : Call) : x.vals[0]? = some (.int .i64 x.proc) := rfl
theorem Call.at1 (x : Call) (h : 1 < x.vals.length) : x.vals[1] = .string (bs x.fh) := rfl
theorem Call.lat1 (x : Call) : x.vals[1]? = some (.string (bs x.fh)) := rfl
theorem Call.at2 (x : Call) (h : 2 < x.vals.length) : x.vals[2] = .string (bs x.name) := rfl
theorem Call.lat2 (x : Call) : x.vals[2]? = some (.string (bs x.name)) := rfl
theorem Call.at3 (x : Call) (h : 3 < x.vals.length) : x.vals[3] = .string (bs x.fh2) := rfl
theorem Call.lat3 (x : Call) : x.vals[3]? = some (.string (bs x.fh2)) := rfl
theorem Call.at4 (x : Call) (h : 4 < x.vals.length) : x.vals[4] = .string (bs x.name2) := rfl
theorem Call.lat4 (x : Call) : x.vals[4]? = some (.string (bs x.name2)) := rfl
theorem Call.at5 (x : Call) (h : 5 < x.vals.length) : x.vals[5] = .int .i64 x.offset := rfl
theorem Call.lat5 (x : Call) : x.vals[5]? = some (.int .i64 x.offset) := rfl
theorem Call.at6 (x : Call) (h : 6 < x.vals.length) : x.vals[6] = .int .i64 x.count := rfl
theorem Call.lat6 (x : Call) : x.vals[6]? = some (.int .i64 x.count) := rfl
theorem Call.at7 (x : Call) (h : 7 < x.vals.length) : x.vals[7] = .int .i64 x.how := rfl
theorem Call.lat7 (x : Call) : x.vals[7]? = some (.int .i64 x.how) := rfl
theorem Call.at8 (x : Call) (h : 8 < x.vals.length) : x.vals[8] = .string (bs x.data) := rfl
theorem Call.lat8 (x : Call) : x.vals[8]? = some (.string (bs x.data)) := rfl
theorem Call.at9 (x : Call) (h : 9 < x.vals.length) : x.vals[9] = .bool x.set.mode.is := rfl
theorem Call.lat9 (x : Call) : x.vals[9]? = some (.bool x.set.mode.is) := rfl
theorem Call.at10 (x : Call) (h : 10 < x.vals.length) : x.vals[10] = .int .i64 x.set.mode.n := rfl
theorem Call.lat10 (x : Call) : x.vals[10]? = some (.int .i64 x.set.mode.n) := rfl
theorem Call.at11 (x : Call) (h : 11 < x.vals.length) : x.vals[11] = .bool x.set.uid.is := rfl
theorem Call.lat11 (x : Call) : x.vals[11]? = some (.bool x.set.uid.is) := rfl
theorem Call.at12 (x : Call) (h : 12 < x.vals.length) : x.vals[12] = .int .i64 x.set.uid.n := rfl
theorem Call.lat12 (x : Call) : x.vals[12]? = some (.int .i64 x.set.uid.n) := rfl
theorem Call.at13 (x : Call) (h : 13 < x.vals.length) : x.vals[13] = .bool x.set.gid.is := rfl
theorem Call.lat13 (x : Call) : x.vals[13]? = some (.bool x.set.gid.is) := rfl
theorem Call.at14 (x : Call) (h : 14 < x.vals.length) : x.vals[14] = .int .i64 x.set.gid.n := rfl
theorem Call.lat14 (x : Call) : x.vals[14]? = some (.int .i64 x.set.gid.n) := rfl
theorem Call.at15 (x : Call) (h : 15 < x.vals.length) : x.vals[15] = .bool x.set.size.is := rfl
theorem Call.lat15 (x : Call) : x.vals[15]? = some (.bool x.set.size.is) := rfl
theorem Call.at16 (x : Call) (h : 16 < x.vals.length) : x.vals[16] = .int .i64 x.set.size.n := rfl
theorem Call.lat16 (x : Call) : x.vals[16]? = some (.int .i64 x.set.size.n) := rfl
theorem Call.at17 (x : Call) (h : 17 < x.vals.length) : x.vals[17] = .bool x.set.time.is := rfl
theorem Call.lat17 (x : Call) : x.vals[17]? = some (.bool x.set.time.is) := rfl
theorem Call.at18 (x : Call) (h : 18 < x.vals.length) : x.vals[18] = .int .i64 x.set.time.n := rfl
theorem Call.lat18 (x : Call) : x.vals[18]? = some (.int .i64 x.set.time.n) := rfl
theorem Call.at19 (x : Call) (h : 19 < x.vals.length) : x.vals[19] = .bool x.guard.is := rfl
theorem Call.lat19 (x : Call) : x.vals[19]? = some (.bool x.guard.is) := rfl
theorem Call.at20 (x : Call) (h : 20 < x.vals.length) : x.vals[20] = .int .i64 x.guard.n := rfl
theorem Call.lat20 (x : Call) : x.vals[20]? = some (.int .i64 x.guard.n) := rfl
theorem Call.at21 (x : Call) (h : 21 < x.vals.length) : x.vals[21] = .int .i64 x.cookie := rfl
theorem Call.lat21 (x : Call) : x.vals[21]? = some (.int .i64 x.cookie) := rfl
theorem Call.at22 (x : Call) (h : 22 < x.vals.length) : x.vals[22] = .int .i64 x.verf := rfl
theorem Call.lat22 (x : Call) : x.vals[22]? = some (.int .i64 x.verf) := rfl
theorem Call.at23 (x : Call) (h : 23 < x.vals.length) : x.vals[23] = .string (bs x.text) := rfl
theorem Call.lat23 (x : Call) : x.vals[23]? = some (.string (bs x.text)) := rfl
theorem Call.sub0_24 (x : Call) : x.vals.toArray.extract 0 24 = x.vals.toArray := (List.extract_toArray ..).trans (congrArg List.toArray (show _ = x.vals from rfl))
theorem Call.lsub0_24 (x : Call) : x.vals.take 24 = x.vals := rfl
theorem Call.sub9_10 (x : Call) : x.vals.toArray.extract 9 19 = x.set.vals.toArray := (List.extract_toArray ..).trans (congrArg List.toArray (show _ = x.set.vals from rfl))
theorem Call.lsub9_10 (x : Call) : (x.vals.drop 9).take 10 = x.set.vals := rfl
theorem Call.sub9_2 (x : Call) : x.vals.toArray.extract 9 11 = x.set.mode.vals.toArray := (List.extract_toArray ..).trans (congrArg List.toArray (show _ = x.set.mode.vals from rfl))
theorem Call.lsub9_2 (x : Call) : (x.vals.drop 9).take 2 = x.set.mode.vals := rfl
theorem Call.sub11_2 (x : Call) : x.vals.toArray.extract 11 13 = x.set.uid.vals.toArray := (List.extract_toArray ..).trans (congrArg List.toArray (show _ = x.set.uid.vals from rfl))
theorem Call.lsub11_2 (x : Call) : (x.vals.drop 11).take 2 = x.set.uid.vals := rfl
theorem Call.sub13_2 (x : Call) : x.vals.toArray.extract 13 15 = x.set.gid.vals.toArray := (List.extract_toArray ..).trans (congrArg List.toArray (show _ = x.set.gid.vals from rfl))
theorem Call.lsub13_2 (x : Call) : (x.vals.drop 13).take 2 = x.set.gid.vals := rfl
theorem Call.sub15_2 (x : Call) : x.vals.toArray.extract 15 17 = x.set.size.vals.toArray := (List.extract_toArray ..).trans (congrArg List.toArray (show _ = x.set.size.vals from rfl))
theorem Call.lsub15_2 (x : Call) : (x.vals.drop 15).take 2 = x.set.size.vals := rfl
theorem Call.sub17_2 (x : Call) : x.vals.toArray.extract 17 19 = x.set.time.vals.toArray := (List.extract_toArray ..).trans (congrArg List.toArray (show _ = x.set.time.vals from rfl))
theorem Call.lsub17_2 (x : Call) : (x.vals.drop 17).take 2 = x.set.time.vals := rfl
theorem Call.sub19_2 (x : Call) : x.vals.toArray.extract 19 21 = x.guard.vals.toArray := (List.extract_toArray ..).trans (congrArg List.toArray (show _ = x.guard.vals from rfl))
theorem Call.lsub19_2 (x : Call) : (x.vals.drop 19).take 2 = x.guard.vals := rfl
def Call.good (x : Call) : Prop := (Lit.int .i64 x.proc).wf = true ∧ x.fh.length ≤ maxLen ∧ x.name.length ≤ maxLen ∧ x.fh2.length ≤ maxLen ∧ x.name2.length ≤ maxLen ∧ (Lit.int .i64 x.offset).wf = true ∧ (Lit.int .i64 x.count).wf = true ∧ (Lit.int .i64 x.how).wf = true ∧ x.data.length ≤ maxLen ∧ x.set.good ∧ x.guard.good ∧ (Lit.int .i64 x.cookie).wf = true ∧ (Lit.int .i64 x.verf).wf = true ∧ x.text.length ≤ maxLen

structure Message where
  xid : Int
  answer : Bool
  again : Bool
  proc : Int
  cred : Cred
  accept : Int
  body : List UInt8
  deriving DecidableEq
def Message.vals (x : Message) : List Value := [.int .i64 x.xid, .bool x.answer, .bool x.again, .int .i64 x.proc] ++ (x.cred.vals ++ [.int .i64 x.accept, .string (bs x.body)])
theorem Message.len (x : Message) : x.vals.length = 10 := rfl
theorem Message.one (x : Message) : ∀ v ∈ x.vals, v.oneCell' = true := by
  intro v hv
  unfold Message.vals at hv
  rcases List.mem_append.1 hv with hv | hv
  · simp only [List.mem_cons, List.not_mem_nil, or_false] at hv
    rcases hv with rfl | rfl | rfl | rfl <;> rfl
  · rcases List.mem_append.1 hv with hv | hv
    · exact Cred.one _ v hv
    · simp only [List.mem_cons, List.not_mem_nil, or_false] at hv
      rcases hv with rfl | rfl <;> rfl
theorem Message.at0 (x : Message) (h : 0 < x.vals.length) : x.vals[0] = .int .i64 x.xid := rfl
theorem Message.lat0 (x : Message) : x.vals[0]? = some (.int .i64 x.xid) := rfl
theorem Message.at1 (x : Message) (h : 1 < x.vals.length) : x.vals[1] = .bool x.answer := rfl
theorem Message.lat1 (x : Message) : x.vals[1]? = some (.bool x.answer) := rfl
theorem Message.at2 (x : Message) (h : 2 < x.vals.length) : x.vals[2] = .bool x.again := rfl
theorem Message.lat2 (x : Message) : x.vals[2]? = some (.bool x.again) := rfl
theorem Message.at3 (x : Message) (h : 3 < x.vals.length) : x.vals[3] = .int .i64 x.proc := rfl
theorem Message.lat3 (x : Message) : x.vals[3]? = some (.int .i64 x.proc) := rfl
theorem Message.at4 (x : Message) (h : 4 < x.vals.length) : x.vals[4] = .int .i64 x.cred.client := rfl
theorem Message.lat4 (x : Message) : x.vals[4]? = some (.int .i64 x.cred.client) := rfl
theorem Message.at5 (x : Message) (h : 5 < x.vals.length) : x.vals[5] = .int .i64 x.cred.seq := rfl
theorem Message.lat5 (x : Message) : x.vals[5]? = some (.int .i64 x.cred.seq) := rfl
theorem Message.at6 (x : Message) (h : 6 < x.vals.length) : x.vals[6] = .int .i64 x.cred.uid := rfl
theorem Message.lat6 (x : Message) : x.vals[6]? = some (.int .i64 x.cred.uid) := rfl
theorem Message.at7 (x : Message) (h : 7 < x.vals.length) : x.vals[7] = .int .i64 x.cred.gid := rfl
theorem Message.lat7 (x : Message) : x.vals[7]? = some (.int .i64 x.cred.gid) := rfl
theorem Message.at8 (x : Message) (h : 8 < x.vals.length) : x.vals[8] = .int .i64 x.accept := rfl
theorem Message.lat8 (x : Message) : x.vals[8]? = some (.int .i64 x.accept) := rfl
theorem Message.at9 (x : Message) (h : 9 < x.vals.length) : x.vals[9] = .string (bs x.body) := rfl
theorem Message.lat9 (x : Message) : x.vals[9]? = some (.string (bs x.body)) := rfl
theorem Message.sub0_10 (x : Message) : x.vals.toArray.extract 0 10 = x.vals.toArray := (List.extract_toArray ..).trans (congrArg List.toArray (show _ = x.vals from rfl))
theorem Message.lsub0_10 (x : Message) : x.vals.take 10 = x.vals := rfl
theorem Message.sub4_4 (x : Message) : x.vals.toArray.extract 4 8 = x.cred.vals.toArray := (List.extract_toArray ..).trans (congrArg List.toArray (show _ = x.cred.vals from rfl))
theorem Message.lsub4_4 (x : Message) : (x.vals.drop 4).take 4 = x.cred.vals := rfl
def Message.good (x : Message) : Prop := (Lit.int .i64 x.xid).wf = true ∧ (Lit.int .i64 x.proc).wf = true ∧ x.cred.good ∧ (Lit.int .i64 x.accept).wf = true ∧ x.body.length ≤ maxLen

structure Change where
  kind : Int
  epoch : Int
  serial : Int
  up : List UInt8
  name : List UInt8
  child : List UInt8
  attr : Attr
  no : Int
  slot : Int
  deriving DecidableEq
def Change.vals (x : Change) : List Value := [.int .i64 x.kind, .int .i64 x.epoch, .int .i64 x.serial, .string (bs x.up), .string (bs x.name), .string (bs x.child)] ++ (x.attr.vals ++ [.int .i64 x.no, .int .i64 x.slot])
theorem Change.len (x : Change) : x.vals.length = 18 := rfl
theorem Change.one (x : Change) : ∀ v ∈ x.vals, v.oneCell' = true := by
  intro v hv
  unfold Change.vals at hv
  rcases List.mem_append.1 hv with hv | hv
  · simp only [List.mem_cons, List.not_mem_nil, or_false] at hv
    rcases hv with rfl | rfl | rfl | rfl | rfl | rfl <;> rfl
  · rcases List.mem_append.1 hv with hv | hv
    · exact Attr.one _ v hv
    · simp only [List.mem_cons, List.not_mem_nil, or_false] at hv
      rcases hv with rfl | rfl <;> rfl
def Change.good (x : Change) : Prop := (Lit.int .i64 x.kind).wf = true ∧ (Lit.int .i64 x.epoch).wf = true ∧ (Lit.int .i64 x.serial).wf = true ∧ x.up.length ≤ maxLen ∧ x.name.length ≤ maxLen ∧ x.child.length ≤ maxLen ∧ x.attr.good ∧ (Lit.int .i64 x.no).wf = true ∧ (Lit.int .i64 x.slot).wf = true

structure Held where
  epoch : Int
  serial : Int
  up : List UInt8
  deriving DecidableEq
def Held.vals (x : Held) : List Value := [.int .i64 x.epoch, .int .i64 x.serial, .string (bs x.up)]
theorem Held.len (x : Held) : x.vals.length = 3 := rfl
theorem Held.one (x : Held) : ∀ v ∈ x.vals, v.oneCell' = true := by
  intro v hv
  unfold Held.vals at hv
  simp only [List.mem_cons, List.not_mem_nil, or_false] at hv
  rcases hv with rfl | rfl | rfl <;> rfl
def Held.good (x : Held) : Prop := (Lit.int .i64 x.epoch).wf = true ∧ (Lit.int .i64 x.serial).wf = true ∧ x.up.length ≤ maxLen

structure Cached where
  up : List UInt8
  attr : Attr
  deriving DecidableEq
def Cached.vals (x : Cached) : List Value := [.string (bs x.up)] ++ x.attr.vals
theorem Cached.len (x : Cached) : x.vals.length = 11 := rfl
theorem Cached.one (x : Cached) : ∀ v ∈ x.vals, v.oneCell' = true := by
  intro v hv
  unfold Cached.vals at hv
  rcases List.mem_append.1 hv with hv | hv
  · simp only [List.mem_cons, List.not_mem_nil, or_false] at hv
    subst hv; rfl
  · exact Attr.one _ v hv
def Cached.good (x : Cached) : Prop := x.up.length ≤ maxLen ∧ x.attr.good

structure Known where
  dir : List UInt8
  name : List UInt8
  up : List UInt8
  deriving DecidableEq
def Known.vals (x : Known) : List Value := [.string (bs x.dir), .string (bs x.name), .string (bs x.up)]
theorem Known.len (x : Known) : x.vals.length = 3 := rfl
theorem Known.one (x : Known) : ∀ v ∈ x.vals, v.oneCell' = true := by
  intro v hv
  unfold Known.vals at hv
  simp only [List.mem_cons, List.not_mem_nil, or_false] at hv
  rcases hv with rfl | rfl | rfl <;> rfl
def Known.good (x : Known) : Prop := x.dir.length ≤ maxLen ∧ x.name.length ≤ maxLen ∧ x.up.length ≤ maxLen

structure Placed where
  up : List UInt8
  no : Int
  slot : Int
  deriving DecidableEq
def Placed.vals (x : Placed) : List Value := [.string (bs x.up), .int .i64 x.no, .int .i64 x.slot]
theorem Placed.len (x : Placed) : x.vals.length = 3 := rfl
theorem Placed.one (x : Placed) : ∀ v ∈ x.vals, v.oneCell' = true := by
  intro v hv
  unfold Placed.vals at hv
  simp only [List.mem_cons, List.not_mem_nil, or_false] at hv
  rcases hv with rfl | rfl | rfl <;> rfl
def Placed.good (x : Placed) : Prop := x.up.length ≤ maxLen ∧ (Lit.int .i64 x.no).wf = true ∧ (Lit.int .i64 x.slot).wf = true

end Go.Proofs.YtfjflkmhhbhceaaGreatDoor

/-
  The data of clients, and of what is asked of them, as plain structures, and the cells that each takes (written by wip/tools/structs.py). No condition.
-/
namespace Go.Proofs.YtfjflkmhhbhceaaGreatDoor
open Go.RowKit

structure Packet where
  from_ : Int
  to_ : Int
  data : List UInt8
  deriving DecidableEq
def Packet.vals (x : Packet) : List Value := [.int .i64 x.from_, .int .i64 x.to_, .string (bs x.data)]
theorem Packet.len (x : Packet) : x.vals.length = 3 := rfl
theorem Packet.one (x : Packet) : ∀ v ∈ x.vals, v.oneCell' = true := by
  intro v hv
  unfold Packet.vals at hv
  simp only [List.mem_cons, List.not_mem_nil, or_false] at hv
  rcases hv with rfl | rfl | rfl <;> rfl
def Packet.good (x : Packet) : Prop := (Lit.int .i64 x.from_).wf = true ∧ (Lit.int .i64 x.to_).wf = true ∧ x.data.length ≤ maxLen

structure Ask where
  kind : Int
  var : Int
  dir : Int
  to_ : Int
  uid : Int
  gid : Int
  call : Call
  deriving DecidableEq
def Ask.vals (x : Ask) : List Value := [.int .i64 x.kind, .int .i64 x.var, .int .i64 x.dir, .int .i64 x.to_, .int .i64 x.uid, .int .i64 x.gid] ++ x.call.vals
theorem Ask.len (x : Ask) : x.vals.length = 30 := rfl
theorem Ask.one (x : Ask) : ∀ v ∈ x.vals, v.oneCell' = true := by
  intro v hv
  unfold Ask.vals at hv
  rcases List.mem_append.1 hv with hv | hv
  · simp only [List.mem_cons, List.not_mem_nil, or_false] at hv
    rcases hv with rfl | rfl | rfl | rfl | rfl | rfl <;> rfl
  · exact Call.one _ v hv
theorem Ask.at0 (x : Ask) (h : 0 < x.vals.length) : x.vals[0] = .int .i64 x.kind := rfl
theorem Ask.lat0 (x : Ask) : x.vals[0]? = some (.int .i64 x.kind) := rfl
theorem Ask.at1 (x : Ask) (h : 1 < x.vals.length) : x.vals[1] = .int .i64 x.var := rfl
theorem Ask.lat1 (x : Ask) : x.vals[1]? = some (.int .i64 x.var) := rfl
theorem Ask.at2 (x : Ask) (h : 2 < x.vals.length) : x.vals[2] = .int .i64 x.dir := rfl
theorem Ask.lat2 (x : Ask) : x.vals[2]? = some (.int .i64 x.dir) := rfl
theorem Ask.at3 (x : Ask) (h : 3 < x.vals.length) : x.vals[3] = .int .i64 x.to_ := rfl
theorem Ask.lat3 (x : Ask) : x.vals[3]? = some (.int .i64 x.to_) := rfl
theorem Ask.at4 (x : Ask) (h : 4 < x.vals.length) : x.vals[4] = .int .i64 x.uid := rfl
theorem Ask.lat4 (x : Ask) : x.vals[4]? = some (.int .i64 x.uid) := rfl
theorem Ask.at5 (x : Ask) (h : 5 < x.vals.length) : x.vals[5] = .int .i64 x.gid := rfl
theorem Ask.lat5 (x : Ask) : x.vals[5]? = some (.int .i64 x.gid) := rfl
theorem Ask.at6 (x : Ask) (h : 6 < x.vals.length) : x.vals[6] = .int .i64 x.call.proc := rfl
theorem Ask.lat6 (x : Ask) : x.vals[6]? = some (.int .i64 x.call.proc) := rfl
theorem Ask.at7 (x : Ask) (h : 7 < x.vals.length) : x.vals[7] = .string (bs x.call.fh) := rfl
theorem Ask.lat7 (x : Ask) : x.vals[7]? = some (.string (bs x.call.fh)) := rfl
theorem Ask.at8 (x : Ask) (h : 8 < x.vals.length) : x.vals[8] = .string (bs x.call.name) := rfl
theorem Ask.lat8 (x : Ask) : x.vals[8]? = some (.string (bs x.call.name)) := rfl
theorem Ask.at9 (x : Ask) (h : 9 < x.vals.length) : x.vals[9] = .string (bs x.call.fh2) := rfl
theorem Ask.lat9 (x : Ask) : x.vals[9]? = some (.string (bs x.call.fh2)) := rfl
theorem Ask.at10 (x : Ask) (h : 10 < x.vals.length) : x.vals[10] = .string (bs x.call.name2) := rfl
theorem Ask.lat10 (x : Ask) : x.vals[10]? = some (.string (bs x.call.name2)) := rfl
theorem Ask.at11 (x : Ask) (h : 11 < x.vals.length) : x.vals[11] = .int .i64 x.call.offset := rfl
theorem Ask.lat11 (x : Ask) : x.vals[11]? = some (.int .i64 x.call.offset) := rfl
theorem Ask.at12 (x : Ask) (h : 12 < x.vals.length) : x.vals[12] = .int .i64 x.call.count := rfl
theorem Ask.lat12 (x : Ask) : x.vals[12]? = some (.int .i64 x.call.count) := rfl
theorem Ask.at13 (x : Ask) (h : 13 < x.vals.length) : x.vals[13] = .int .i64 x.call.how := rfl
theorem Ask.lat13 (x : Ask) : x.vals[13]? = some (.int .i64 x.call.how) := rfl
theorem Ask.at14 (x : Ask) (h : 14 < x.vals.length) : x.vals[14] = .string (bs x.call.data) := rfl
theorem Ask.lat14 (x : Ask) : x.vals[14]? = some (.string (bs x.call.data)) := rfl
theorem Ask.at15 (x : Ask) (h : 15 < x.vals.length) : x.vals[15] = .bool x.call.set.mode.is := rfl
theorem Ask.lat15 (x : Ask) : x.vals[15]? = some (.bool x.call.set.mode.is) := rfl
theorem Ask.at16 (x : Ask) (h : 16 < x.vals.length) : x.vals[16] = .int .i64 x.call.set.mode.n := rfl
theorem Ask.lat16 (x : Ask) : x.vals[16]? = some (.int .i64 x.call.set.mode.n) := rfl
theorem Ask.at17 (x : Ask) (h : 17 < x.vals.length) : x.vals[17] = .bool x.call.set.uid.is := rfl
theorem Ask.lat17 (x : Ask) : x.vals[17]? = some (.bool x.call.set.uid.is) := rfl
theorem Ask.at18 (x : Ask) (h : 18 < x.vals.length) : x.vals[18] = .int .i64 x.call.set.uid.n := rfl
theorem Ask.lat18 (x : Ask) : x.vals[18]? = some (.int .i64 x.call.set.uid.n) := rfl
theorem Ask.at19 (x : Ask) (h : 19 < x.vals.length) : x.vals[19] = .bool x.call.set.gid.is := rfl
theorem Ask.lat19 (x : Ask) : x.vals[19]? = some (.bool x.call.set.gid.is) := rfl
theorem Ask.at20 (x : Ask) (h : 20 < x.vals.length) : x.vals[20] = .int .i64 x.call.set.gid.n := rfl
theorem Ask.lat20 (x : Ask) : x.vals[20]? = some (.int .i64 x.call.set.gid.n) := rfl
theorem Ask.at21 (x : Ask) (h : 21 < x.vals.length) : x.vals[21] = .bool x.call.set.size.is := rfl
theorem Ask.lat21 (x : Ask) : x.vals[21]? = some (.bool x.call.set.size.is) := rfl
theorem Ask.at22 (x : Ask) (h : 22 < x.vals.length) : x.vals[22] = .int .i64 x.call.set.size.n := rfl
theorem Ask.lat22 (x : Ask) : x.vals[22]? = some (.int .i64 x.call.set.size.n) := rfl
theorem Ask.at23 (x : Ask) (h : 23 < x.vals.length) : x.vals[23] = .bool x.call.set.time.is := rfl
theorem Ask.lat23 (x : Ask) : x.vals[23]? = some (.bool x.call.set.time.is) := rfl
theorem Ask.at24 (x : Ask) (h : 24 < x.vals.length) : x.vals[24] = .int .i64 x.call.set.time.n := rfl
theorem Ask.lat24 (x : Ask) : x.vals[24]? = some (.int .i64 x.call.set.time.n) := rfl
theorem Ask.at25 (x : Ask) (h : 25 < x.vals.length) : x.vals[25] = .bool x.call.guard.is := rfl
theorem Ask.lat25 (x : Ask) : x.vals[25]? = some (.bool x.call.guard.is) := rfl
theorem Ask.at26 (x : Ask) (h : 26 < x.vals.length) : x.vals[26] = .int .i64 x.call.guard.n := rfl
theorem Ask.lat26 (x : Ask) : x.vals[26]? = some (.int .i64 x.call.guard.n) := rfl
theorem Ask.at27 (x : Ask) (h : 27 < x.vals.length) : x.vals[27] = .int .i64 x.call.cookie := rfl
theorem Ask.lat27 (x : Ask) : x.vals[27]? = some (.int .i64 x.call.cookie) := rfl
theorem Ask.at28 (x : Ask) (h : 28 < x.vals.length) : x.vals[28] = .int .i64 x.call.verf := rfl
theorem Ask.lat28 (x : Ask) : x.vals[28]? = some (.int .i64 x.call.verf) := rfl
theorem Ask.at29 (x : Ask) (h : 29 < x.vals.length) : x.vals[29] = .string (bs x.call.text) := rfl
theorem Ask.lat29 (x : Ask) : x.vals[29]? = some (.string (bs x.call.text)) := rfl
theorem Ask.sub0_30 (x : Ask) : x.vals.toArray.extract 0 30 = x.vals.toArray := (List.extract_toArray ..).trans (congrArg List.toArray (show _ = x.vals from rfl))
theorem Ask.lsub0_30 (x : Ask) : x.vals.take 30 = x.vals := rfl
theorem Ask.sub6_24 (x : Ask) : x.vals.toArray.extract 6 30 = x.call.vals.toArray := (List.extract_toArray ..).trans (congrArg List.toArray (show _ = x.call.vals from rfl))
theorem Ask.lsub6_24 (x : Ask) : (x.vals.drop 6).take 24 = x.call.vals := rfl
theorem Ask.sub15_10 (x : Ask) : x.vals.toArray.extract 15 25 = x.call.set.vals.toArray := (List.extract_toArray ..).trans (congrArg List.toArray (show _ = x.call.set.vals from rfl))
theorem Ask.lsub15_10 (x : Ask) : (x.vals.drop 15).take 10 = x.call.set.vals := rfl
theorem Ask.sub15_2 (x : Ask) : x.vals.toArray.extract 15 17 = x.call.set.mode.vals.toArray := (List.extract_toArray ..).trans (congrArg List.toArray (show _ = x.call.set.mode.vals from rfl))
theorem Ask.lsub15_2 (x : Ask) : (x.vals.drop 15).take 2 = x.call.set.mode.vals := rfl
theorem Ask.sub17_2 (x : Ask) : x.vals.toArray.extract 17 19 = x.call.set.uid.vals.toArray := (List.extract_toArray ..).trans (congrArg List.toArray (show _ = x.call.set.uid.vals from rfl))
theorem Ask.lsub17_2 (x : Ask) : (x.vals.drop 17).take 2 = x.call.set.uid.vals := rfl
theorem Ask.sub19_2 (x : Ask) : x.vals.toArray.extract 19 21 = x.call.set.gid.vals.toArray := (List.extract_toArray ..).trans (congrArg List.toArray (show _ = x.call.set.gid.vals from rfl))
theorem Ask.lsub19_2 (x : Ask) : (x.vals.drop 19).take 2 = x.call.set.gid.vals := rfl
theorem Ask.sub21_2 (x : Ask) : x.vals.toArray.extract 21 23 = x.call.set.size.vals.toArray := (List.extract_toArray ..).trans (congrArg List.toArray (show _ = x.call.set.size.vals from rfl))
theorem Ask.lsub21_2 (x : Ask) : (x.vals.drop 21).take 2 = x.call.set.size.vals := rfl
theorem Ask.sub23_2 (x : Ask) : x.vals.toArray.extract 23 25 = x.call.set.time.vals.toArray := (List.extract_toArray ..).trans (congrArg List.toArray (show _ = x.call.set.time.vals from rfl))
theorem Ask.lsub23_2 (x : Ask) : (x.vals.drop 23).take 2 = x.call.set.time.vals := rfl
theorem Ask.sub25_2 (x : Ask) : x.vals.toArray.extract 25 27 = x.call.guard.vals.toArray := (List.extract_toArray ..).trans (congrArg List.toArray (show _ = x.call.guard.vals from rfl))
theorem Ask.lsub25_2 (x : Ask) : (x.vals.drop 25).take 2 = x.call.guard.vals := rfl
def Ask.good (x : Ask) : Prop := (Lit.int .i64 x.kind).wf = true ∧ (Lit.int .i64 x.var).wf = true ∧ (Lit.int .i64 x.dir).wf = true ∧ (Lit.int .i64 x.to_).wf = true ∧ (Lit.int .i64 x.uid).wf = true ∧ (Lit.int .i64 x.gid).wf = true ∧ x.call.good

structure CPlace where
  handle : List UInt8
  gen : Int
  at_ : Int
  bytes : List UInt8
  deriving DecidableEq
def CPlace.vals (x : CPlace) : List Value := [.string (bs x.handle), .int .i64 x.gen, .int .i64 x.at_, .string (bs x.bytes)]
theorem CPlace.len (x : CPlace) : x.vals.length = 4 := rfl
theorem CPlace.one (x : CPlace) : ∀ v ∈ x.vals, v.oneCell' = true := by
  intro v hv
  unfold CPlace.vals at hv
  simp only [List.mem_cons, List.not_mem_nil, or_false] at hv
  rcases hv with rfl | rfl | rfl | rfl <;> rfl
def CPlace.good (x : CPlace) : Prop := x.handle.length ≤ maxLen ∧ (Lit.int .i64 x.gen).wf = true ∧ (Lit.int .i64 x.at_).wf = true ∧ x.bytes.length ≤ maxLen

structure CPart where
  c : Call
  dir : Int
  to_ : Int
  put : Int
  uid : Int
  gid : Int
  deriving DecidableEq
def CPart.vals (x : CPart) : List Value := x.c.vals ++ [.int .i64 x.dir, .int .i64 x.to_, .int .i64 x.put, .int .i64 x.uid, .int .i64 x.gid]
theorem CPart.len (x : CPart) : x.vals.length = 29 := rfl
theorem CPart.one (x : CPart) : ∀ v ∈ x.vals, v.oneCell' = true := by
  intro v hv
  unfold CPart.vals at hv
  rcases List.mem_append.1 hv with hv | hv
  · exact Call.one _ v hv
  · simp only [List.mem_cons, List.not_mem_nil, or_false] at hv
    rcases hv with rfl | rfl | rfl | rfl | rfl <;> rfl
def CPart.good (x : CPart) : Prop := x.c.good ∧ (Lit.int .i64 x.dir).wf = true ∧ (Lit.int .i64 x.to_).wf = true ∧ (Lit.int .i64 x.put).wf = true ∧ (Lit.int .i64 x.uid).wf = true ∧ (Lit.int .i64 x.gid).wf = true

structure Recd where
  cred : Cred
  begin_ : Int
  end_ : Int
  call : Call
  reply : Reply
def Recd.vals (x : Recd) : List Value := x.cred.vals ++ ([.int .i64 x.begin_, .int .i64 x.end_] ++ (x.call.vals ++ x.reply.vals))
theorem Recd.len (x : Recd) : x.vals.length = 88 := rfl
theorem Recd.one (x : Recd) : ∀ v ∈ x.vals, v.oneCell' = true := by
  intro v hv
  unfold Recd.vals at hv
  rcases List.mem_append.1 hv with hv | hv
  · exact Cred.one _ v hv
  · rcases List.mem_append.1 hv with hv | hv
    · simp only [List.mem_cons, List.not_mem_nil, or_false] at hv
      rcases hv with rfl | rfl <;> rfl
    · rcases List.mem_append.1 hv with hv | hv
      · exact Call.one _ v hv
      · exact Reply.one _ v hv
def Recd.good (x : Recd) : Prop := x.cred.good ∧ (Lit.int .i64 x.begin_).wf = true ∧ (Lit.int .i64 x.end_).wf = true ∧ x.call.good ∧ x.reply.good

structure Clnt where
  id : Int
  self : Int
  server : Int
  p0 : CPlace
  p1 : CPlace
  p2 : CPlace
  p3 : CPlace
  ta : Option Addr
  tn : Nat
  tc : Nat
  now : CPart
  busy : Bool
  sent : Packet
  due : Int
  made : Int
  ra : Option Addr
  rn : Nat
  rc : Nat
def Clnt.vals (x : Clnt) : List Value := [.int .i64 x.id, .int .i64 x.self, .int .i64 x.server] ++ (x.p0.vals ++ (x.p1.vals ++ (x.p2.vals ++ (x.p3.vals ++ ([.slice x.ta x.tn x.tc] ++ (x.now.vals ++ ([.bool x.busy] ++ (x.sent.vals ++ [.int .i64 x.due, .int .i64 x.made, .slice x.ra x.rn x.rc]))))))))
theorem Clnt.len (x : Clnt) : x.vals.length = 56 := rfl
theorem Clnt.one (x : Clnt) : ∀ v ∈ x.vals, v.oneCell' = true := by
  intro v hv
  unfold Clnt.vals at hv
  rcases List.mem_append.1 hv with hv | hv
  · simp only [List.mem_cons, List.not_mem_nil, or_false] at hv
    rcases hv with rfl | rfl | rfl <;> rfl
  · rcases List.mem_append.1 hv with hv | hv
    · exact CPlace.one _ v hv
    · rcases List.mem_append.1 hv with hv | hv
      · exact CPlace.one _ v hv
      · rcases List.mem_append.1 hv with hv | hv
        · exact CPlace.one _ v hv
        · rcases List.mem_append.1 hv with hv | hv
          · exact CPlace.one _ v hv
          · rcases List.mem_append.1 hv with hv | hv
            · simp only [List.mem_cons, List.not_mem_nil, or_false] at hv
              subst hv; rfl
            · rcases List.mem_append.1 hv with hv | hv
              · exact CPart.one _ v hv
              · rcases List.mem_append.1 hv with hv | hv
                · simp only [List.mem_cons, List.not_mem_nil, or_false] at hv
                  subst hv; rfl
                · rcases List.mem_append.1 hv with hv | hv
                  · exact Packet.one _ v hv
                  · simp only [List.mem_cons, List.not_mem_nil, or_false] at hv
                    rcases hv with rfl | rfl | rfl <;> rfl
theorem Clnt.lsub20_24 (x : Clnt) : (x.vals.drop 20).take 24 = x.now.c.vals := rfl
def Clnt.good (x : Clnt) : Prop := (Lit.int .i64 x.id).wf = true ∧ (Lit.int .i64 x.self).wf = true ∧ (Lit.int .i64 x.server).wf = true ∧ x.p0.good ∧ x.p1.good ∧ x.p2.good ∧ x.p3.good ∧ x.tn ≤ maxLen ∧ x.now.good ∧ x.sent.good ∧ (Lit.int .i64 x.due).wf = true ∧ (Lit.int .i64 x.made).wf = true ∧ x.rn ≤ maxLen

structure FPlace where
  handle : List UInt8
  gen : Int
  at_ : Int
  bytes : List UInt8
  deriving DecidableEq
def FPlace.vals (x : FPlace) : List Value := [.string (bs x.handle), .int .i64 x.gen, .int .i64 x.at_, .string (bs x.bytes)]
theorem FPlace.len (x : FPlace) : x.vals.length = 4 := rfl
theorem FPlace.one (x : FPlace) : ∀ v ∈ x.vals, v.oneCell' = true := by
  intro v hv
  unfold FPlace.vals at hv
  simp only [List.mem_cons, List.not_mem_nil, or_false] at hv
  rcases hv with rfl | rfl | rfl | rfl <;> rfl
def FPlace.good (x : FPlace) : Prop := x.handle.length ≤ maxLen ∧ (Lit.int .i64 x.gen).wf = true ∧ (Lit.int .i64 x.at_).wf = true ∧ x.bytes.length ≤ maxLen

structure FPart where
  c : Call
  dir : Int
  to_ : Int
  put : Int
  deriving DecidableEq
def FPart.vals (x : FPart) : List Value := x.c.vals ++ [.int .i64 x.dir, .int .i64 x.to_, .int .i64 x.put]
theorem FPart.len (x : FPart) : x.vals.length = 27 := rfl
theorem FPart.one (x : FPart) : ∀ v ∈ x.vals, v.oneCell' = true := by
  intro v hv
  unfold FPart.vals at hv
  rcases List.mem_append.1 hv with hv | hv
  · exact Call.one _ v hv
  · simp only [List.mem_cons, List.not_mem_nil, or_false] at hv
    rcases hv with rfl | rfl | rfl <;> rfl
def FPart.good (x : FPart) : Prop := x.c.good ∧ (Lit.int .i64 x.dir).wf = true ∧ (Lit.int .i64 x.to_).wf = true ∧ (Lit.int .i64 x.put).wf = true

structure FClnt where
  id : Int
  self : Int
  server : Int
  p0 : FPlace
  p1 : FPlace
  p2 : FPlace
  p3 : FPlace
  ta : Option Addr
  tn : Nat
  tc : Nat
  now : FPart
  busy : Bool
  sent : Packet
  due : Int
  uid : Int
  gid : Int
  ra : Option Addr
  rn : Nat
  rc : Nat
def FClnt.vals (x : FClnt) : List Value := [.int .i64 x.id, .int .i64 x.self, .int .i64 x.server] ++ (x.p0.vals ++ (x.p1.vals ++ (x.p2.vals ++ (x.p3.vals ++ ([.slice x.ta x.tn x.tc] ++ (x.now.vals ++ ([.bool x.busy] ++ (x.sent.vals ++ [.int .i64 x.due, .int .i64 x.uid, .int .i64 x.gid, .slice x.ra x.rn x.rc]))))))))
theorem FClnt.len (x : FClnt) : x.vals.length = 55 := rfl
theorem FClnt.one (x : FClnt) : ∀ v ∈ x.vals, v.oneCell' = true := by
  intro v hv
  unfold FClnt.vals at hv
  rcases List.mem_append.1 hv with hv | hv
  · simp only [List.mem_cons, List.not_mem_nil, or_false] at hv
    rcases hv with rfl | rfl | rfl <;> rfl
  · rcases List.mem_append.1 hv with hv | hv
    · exact FPlace.one _ v hv
    · rcases List.mem_append.1 hv with hv | hv
      · exact FPlace.one _ v hv
      · rcases List.mem_append.1 hv with hv | hv
        · exact FPlace.one _ v hv
        · rcases List.mem_append.1 hv with hv | hv
          · exact FPlace.one _ v hv
          · rcases List.mem_append.1 hv with hv | hv
            · simp only [List.mem_cons, List.not_mem_nil, or_false] at hv
              subst hv; rfl
            · rcases List.mem_append.1 hv with hv | hv
              · exact FPart.one _ v hv
              · rcases List.mem_append.1 hv with hv | hv
                · simp only [List.mem_cons, List.not_mem_nil, or_false] at hv
                  subst hv; rfl
                · rcases List.mem_append.1 hv with hv | hv
                  · exact Packet.one _ v hv
                  · simp only [List.mem_cons, List.not_mem_nil, or_false] at hv
                    rcases hv with rfl | rfl | rfl | rfl <;> rfl
def FClnt.good (x : FClnt) : Prop := (Lit.int .i64 x.id).wf = true ∧ (Lit.int .i64 x.self).wf = true ∧ (Lit.int .i64 x.server).wf = true ∧ x.p0.good ∧ x.p1.good ∧ x.p2.good ∧ x.p3.good ∧ x.tn ≤ maxLen ∧ x.now.good ∧ x.sent.good ∧ (Lit.int .i64 x.due).wf = true ∧ (Lit.int .i64 x.uid).wf = true ∧ (Lit.int .i64 x.gid).wf = true ∧ x.rn ≤ maxLen

structure Step where
  kind : Int
  a : Ask
  p : Packet
  r : Reply
  from_ : Int
  now : Int
def Step.vals (x : Step) : List Value := [.int .i64 x.kind] ++ (x.a.vals ++ (x.p.vals ++ (x.r.vals ++ [.int .i64 x.from_, .int .i64 x.now])))
theorem Step.len (x : Step) : x.vals.length = 94 := rfl
theorem Step.one (x : Step) : ∀ v ∈ x.vals, v.oneCell' = true := by
  intro v hv
  unfold Step.vals at hv
  rcases List.mem_append.1 hv with hv | hv
  · simp only [List.mem_cons, List.not_mem_nil, or_false] at hv
    subst hv; rfl
  · rcases List.mem_append.1 hv with hv | hv
    · exact Ask.one _ v hv
    · rcases List.mem_append.1 hv with hv | hv
      · exact Packet.one _ v hv
      · rcases List.mem_append.1 hv with hv | hv
        · exact Reply.one _ v hv
        · simp only [List.mem_cons, List.not_mem_nil, or_false] at hv
          rcases hv with rfl | rfl <;> rfl
def Step.good (x : Step) : Prop := (Lit.int .i64 x.kind).wf = true ∧ x.a.good ∧ x.p.good ∧ x.r.good ∧ (Lit.int .i64 x.from_).wf = true ∧ (Lit.int .i64 x.now).wf = true

end Go.Proofs.YtfjflkmhhbhceaaGreatDoor


/-
  Memory words for objects that are written: which blocks a call may have changed; a block that is known whole; a row that grows. No condition.
-/
namespace Go.Proofs.YtfjflkmhhbhceaaGreatDoor
open Go.RowKit

/-- all blocks that were there are as they were, but those of F -/
structure Touch (F : Nat → Prop) (w w' : World) : Prop where
  os : w'.os = w.os
  tape : w'.tape = w.tape
  output : w'.output = w.output
  size : w.heap.size ≤ w'.heap.size
  block : ∀ k, k < w.heap.size → ¬ F k → w'.heap[k]? = w.heap[k]?

theorem Touch.refl (F : Nat → Prop) (w : World) : Touch F w w := ⟨rfl, rfl, rfl, Nat.le_refl _, fun _ _ _ => rfl⟩
theorem Touch.of_below {w w' : World} (h : Below w.heap.size w w') (F : Nat → Prop) : Touch F w w' := ⟨h.os, h.tape, h.output, h.size, fun k hk _ => h.block k hk⟩
theorem Touch.of_grown {w w' : World} {row : Option Nat} (h : w.grownBy w' row) {F : Nat → Prop} (hF : ∀ k, row = some k → F k) : Touch F w w' :=
  ⟨h.os, h.tape, h.output, h.size, fun k hk hn => h.block k hk (fun e => hn (hF k e.symm))⟩
theorem Touch.mono {F G : Nat → Prop} {w w' : World} (h : Touch F w w') (hFG : ∀ k, k < w.heap.size → F k → G k) : Touch G w w' :=
  ⟨h.os, h.tape, h.output, h.size, fun k hk hn => h.block k hk (fun hf => hn (hFG k hk hf))⟩
/-- one behind the other: the second may change what is new, too -/
theorem Touch.trans {F G : Nat → Prop} {a b c : World} (h : Touch F a b) (k : Touch G b c) (hG : ∀ i, i < a.heap.size → G i → F i) : Touch F a c :=
  ⟨k.os.trans h.os, k.tape.trans h.tape, k.output.trans h.output, Nat.le_trans h.size k.size, fun i hi hn =>
    (k.block i (Nat.lt_of_lt_of_le hi h.size) (fun hg => hn (hG i hi hg))).trans (h.block i hi hn)⟩
theorem Touch.then_ {F : Nat → Prop} {a b c : World} (h : Touch F a b) (k : Touch F b c) : Touch F a c := h.trans k fun _ _ hg => hg
theorem Touch.alloc {F : Nat → Prop} {a b : World} (h : Touch F a b) (o : Obj) : Touch F a (b.alloc o) :=
  h.trans (Touch.of_below ((Below.refl _ _).alloc (Nat.le_refl _) o) F) fun _ _ hg => hg
theorem Touch.drew {F : Nat → Prop} {a b : World} (h : Touch F a b) : Touch F a b.drew := ⟨h.os, h.tape, h.output, h.size, h.block⟩
theorem Touch.drewN {F : Nat → Prop} {a b : World} (h : Touch F a b) (n : Nat) : Touch F a (b.drewN n) := ⟨h.os, h.tape, h.output, h.size, h.block⟩
theorem Touch.setCell {F : Nat → Prop} {a b : World} (h : Touch F a b) {p : Addr} (hp : F p.block ∨ a.heap.size ≤ p.block) (u : Value) : Touch F a (b.setCell p u) :=
  ⟨h.os, h.tape, h.output, by simpa [World.setCell] using h.size, fun i hi hn => (Below.heap_setCell b p u i (by
    rintro rfl
    rcases hp with hp | hp
    · exact hn hp
    · omega)).trans (h.block i hi hn)⟩
theorem Touch.below {F : Nat → Prop} {B : Nat} {w w' : World} (h : Touch F w w') (hF : ∀ k, k < w.heap.size → F k → B ≤ k) (hB : B ≤ w.heap.size) : Below B w w' :=
  ⟨h.os, h.tape, h.output, h.size, fun k hk => h.block k (by omega) (fun hf => by have := hF k (by omega) hf; omega)⟩
theorem Touch.cell {F : Nat → Prop} {w w' : World} (h : Touch F w w') {p : Addr} (hp : p.block < w.heap.size) (hn : ¬ F p.block) : w'.cell? p = w.cell? p := World.cell?_of_block (h.block p.block hp hn)
theorem Touch.row {F : Nat → Prop} {w w' : World} (h : Touch F w w') {b : Nat} (hb : b < w.heap.size) (hn : ¬ F b) (o n : Nat) : rowOf w' b o n = rowOf w b o n := by
  simp only [rowOf, h.block b hb hn]

/-- block g is just these cells of element type t, none frozen -/
def Blk (w : World) (g : Nat) (t : TypeId) (cs : List Value) : Prop := w.heap[g]? = some (.cells cs.toArray t (0, 0))
section
variable {w w' : World} {g : Nat} {t : TypeId} {cs : List Value}
theorem Blk.lt (h : Blk w g t cs) : g < w.heap.size := by
  rcases Nat.lt_or_ge g w.heap.size with hlt | hge
  · exact hlt
  · unfold Blk at h; rw [Array.getElem?_eq_none hge] at h; cases h
theorem Blk.cell (h : Blk w g t cs) (i : Nat) : w.cell? ⟨g, i, none⟩ = cs[i]? := by rw [cell_of_row w g i _ t (0, 0) h]; simp
theorem Blk.frozen (h : Blk w g t cs) (i : Nat) : w.frozen? ⟨g, i, none⟩ = false := by
  unfold Blk at h
  simp [World.frozen?, h]
theorem Blk.new (w : World) (t : TypeId) (cs : List Value) : Blk (w.alloc (.cells cs.toArray t)) w.heap.size t cs := heap_alloc_new w _
theorem Blk.drew (h : Blk w g t cs) : Blk w.drew g t cs := h
theorem Blk.drewN (h : Blk w g t cs) (n : Nat) : Blk (w.drewN n) g t cs := h
theorem Blk.alloc (h : Blk w g t cs) (o : Obj) : Blk (w.alloc o) g t cs := (Below.heap_alloc w o g h.lt).trans h
theorem Blk.set_ (h : Blk w g t cs) (i : Nat) (u : Value) : Blk (w.setCell ⟨g, i, none⟩ u) g t (cs.set i u) := by
  unfold Blk at h ⊢
  simp [World.setCell, Array.getElem?_modify, h]
theorem Blk.far (h : Blk w g t cs) {p : Addr} (hp : g ≠ p.block) (u : Value) : Blk (w.setCell p u) g t cs := (Below.heap_setCell w p u g hp).trans h
theorem Blk.touch {F : Nat → Prop} (h : Blk w g t cs) (hb : Touch F w w') (hn : ¬ F g) : Blk w' g t cs := (hb.block g h.lt hn).trans h
theorem Blk.below {B : Nat} (h : Blk w g t cs) (hb : Below B w w') (hg : g < B) : Blk w' g t cs := (hb.block g hg).trans h
theorem Blk.stays (h : Blk w g t cs) (hb : Below w.heap.size w w') : Blk w' g t cs := h.below hb h.lt
theorem Blk.grown {row : Option Nat} (h : Blk w g t cs) (hb : w.grownBy w' row) (hg : row ≠ some g) : Blk w' g t cs := (hb.block g h.lt (fun e => hg e.symm)).trans h
theorem Blk.ne_ {g' : Nat} {t' : TypeId} {cs' : List Value} (h : Blk w g t cs) (h' : Blk w g' t' cs') (hne : t ≠ t') : g ≠ g' := by
  rintro rfl
  unfold Blk at h h'
  rw [h] at h'
  injection h' with h'
  injection h' with _ ht
  exact hne ht
theorem Blk.inj {cs' : List Value} (h : Blk w g t cs) (h' : Blk w g t cs') : cs = cs' := by
  unfold Blk at h h'
  rw [h] at h'
  injection h' with h'
  injection h' with hc
  simpa using hc
theorem Blk.own_ne {base : Nat} {e : TypeId} {size n : Nat} {v : Value} {xs : List Value} (h : w.ownsRow base e size v n xs) (hg : Blk w g t cs) (hne : e ≠ t) : v.ownBlock ≠ some g := by
  rcases h.2 with ⟨rfl, _⟩ | ⟨g', cap, cur, rfl, _, hh, _⟩
  · simp [Value.ownBlock]
  · intro he
    have : g' = g := by simpa [Value.ownBlock] using he
    subst this
    unfold Blk at hg
    rw [hh] at hg
    injection hg with hg
    injection hg with _ ht
    exact hne ht
theorem Blk.row (h : Blk w g t cs) (o n : Nat) (hn : o + n ≤ cs.length) : rowOf w g o n = some ((cs.drop o).take n).toArray := by
  unfold Blk at h
  unfold rowOf
  simp only [h]
  rw [if_pos (by simpa using hn)]
  simp
end
theorem At.touch {w w' : World} {sz : Nat} {A : Option Addr} {rows : List (List Value)} {F : Nat → Prop} (h : At w sz A rows) (hb : Touch F w w') (hn : ∀ b off, A = some ⟨b, off, none⟩ → ¬ F b) : At w' sz A rows := by
  intro i r hr
  obtain ⟨b, off, hA, hlt, hc⟩ := h i r hr
  exact ⟨b, off, hA, Nat.lt_of_lt_of_le hlt hb.size, fun j u hu => (hb.cell (p := ⟨b, _, none⟩) hlt (hn b off hA)).trans (hc j u hu)⟩
theorem ownsRow_touch {w w' : World} {base : Nat} {e : TypeId} {size n : Nat} {v : Value} {xs : List Value} {F : Nat → Prop} (h : w.ownsRow base e size v n xs) (hb : Touch F w w') (hn : ∀ k, v.ownBlock = some k → ¬ F k) : w'.ownsRow base e size v n xs := by
  obtain ⟨h1, h2⟩ := h
  refine ⟨h1, ?_⟩
  rcases h2 with h2 | ⟨g, cap, cur, hv, hg, hh, r⟩
  · exact Or.inl h2
  · have hlt : g < w.heap.size := by
      rcases Nat.lt_or_ge g w.heap.size with h | h
      · exact h
      · rw [Array.getElem?_eq_none h] at hh; cases hh
    exact Or.inr ⟨g, cap, cur, hv, hg, by rw [hb.block g hlt (hn g (by rw [hv]; rfl))]; exact hh, r⟩

end Go.Proofs.YtfjflkmhhbhceaaGreatDoor


/-
  Layer 4, plain laws: runes of a text, how it is shown and read. No condition.
-/
namespace Go.Proofs.YtfjflkmhhbhceaaGreatDoor
open Go.RowKit

/-- a text's byte at a place; nought behind its end -/
def at0 (s : List UInt8) (k : Nat) : Nat := ((s[k]?).getD 0).toNat
end Go.Proofs.YtfjflkmhhbhceaaGreatDoor


/-
  Operations under other names: a region that draws its order (go_region_held3) then runs them in their place, not first. No condition.
-/
namespace Go.Proofs.YtfjflkmhhbhceaaGreatDoor
def laterLd (T : TypeId) (x : Operand) : Op := Op.load T x
theorem laterLd_eq (T : TypeId) (x : Operand) : Op.load T x = laterLd T x := rfl
end Go.Proofs.YtfjflkmhhbhceaaGreatDoor
