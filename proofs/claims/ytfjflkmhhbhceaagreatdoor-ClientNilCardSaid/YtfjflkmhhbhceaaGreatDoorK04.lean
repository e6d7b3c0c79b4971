/-
  The data of calls, messages, entries and changes as plain structures, and the cells that each takes (written by wip/tools/structs.py). No condition.
-/
import Derived.Test.YtfjflkmhhbhceaaGreatDoorK03
namespace Go.Proofs.YtfjflkmhhbhceaaGreatDoor
open Go.RowKit

structure Cred where
  client : Int
  seq : Int
  uid : Int
  gid : Int
  deriving DecidableEq
def Cred.vals (x : Cred) : List Value := [.int .i64 x.client, .int .i64 x.seq, .int .i64 x.uid, .int .i64 x.gid]
theorem Cred.len (x : Cred) : x.vals.length = 4 := rfl
theorem Cred.one (x : Cred) : ∀ v ∈ x.vals, v.oneCell' = true := by
  intro v hv
  unfold Cred.vals at hv
  simp only [List.mem_cons, List.not_mem_nil, or_false] at hv
  rcases hv with rfl | rfl | rfl | rfl <;> rfl
theorem Cred.at0 (x : Cred) (h : 0 < x.vals.length) : x.vals[0] = .int .i64 x.client := rfl
theorem Cred.lat0 (x : Cred) : x.vals[0]? = some (.int .i64 x.client) := rfl
theorem Cred.at1 (x : Cred) (h : 1 < x.vals.length) : x.vals[1] = .int .i64 x.seq := rfl
theorem Cred.lat1 (x : Cred) : x.vals[1]? = some (.int .i64 x.seq) := rfl
theorem Cred.at2 (x : Cred) (h : 2 < x.vals.length) : x.vals[2] = .int .i64 x.uid := rfl
theorem Cred.lat2 (x : Cred) : x.vals[2]? = some (.int .i64 x.uid) := rfl
theorem Cred.at3 (x : Cred) (h : 3 < x.vals.length) : x.vals[3] = .int .i64 x.gid := rfl
theorem Cred.lat3 (x : Cred) : x.vals[3]? = some (.int .i64 x.gid) := rfl
theorem Cred.sub0_4 (x : Cred) : x.vals.toArray.extract 0 4 = x.vals.toArray := (List.extract_toArray ..).trans (congrArg List.toArray (show _ = x.vals from rfl))
theorem Cred.lsub0_4 (x : Cred) : x.vals.take 4 = x.vals := rfl
def Cred.good (x : Cred) : Prop := (Lit.int .i64 x.client).wf = true ∧ (Lit.int .i64 x.seq).wf = true ∧ (Lit.int .i64 x.uid).wf = true ∧ (Lit.int .i64 x.gid).wf = true

structure Parts where
  kind : Int
  a : Int
  b : Int
  deriving DecidableEq
def Parts.vals (x : Parts) : List Value := [.int .i64 x.kind, .int .i64 x.a, .int .i64 x.b]
theorem Parts.len (x : Parts) : x.vals.length = 3 := rfl
theorem Parts.one (x : Parts) : ∀ v ∈ x.vals, v.oneCell' = true := by
  intro v hv
  unfold Parts.vals at hv
  simp only [List.mem_cons, List.not_mem_nil, or_false] at hv
  rcases hv with rfl | rfl | rfl <;> rfl
theorem Parts.at0 (x : Parts) (h : 0 < x.vals.length) : x.vals[0] = .int .i64 x.kind := rfl
theorem Parts.lat0 (x : Parts) : x.vals[0]? = some (.int .i64 x.kind) := rfl
theorem Parts.at1 (x : Parts) (h : 1 < x.vals.length) : x.vals[1] = .int .i64 x.a := rfl
theorem Parts.lat1 (x : Parts) : x.vals[1]? = some (.int .i64 x.a) := rfl
theorem Parts.at2 (x : Parts) (h : 2 < x.vals.length) : x.vals[2] = .int .i64 x.b := rfl
theorem Parts.lat2 (x : Parts) : x.vals[2]? = some (.int .i64 x.b) := rfl
theorem Parts.sub0_3 (x : Parts) : x.vals.toArray.extract 0 3 = x.vals.toArray := (List.extract_toArray ..).trans (congrArg List.toArray (show _ = x.vals from rfl))
theorem Parts.lsub0_3 (x : Parts) : x.vals.take 3 = x.vals := rfl
def Parts.good (x : Parts) : Prop := (Lit.int .i64 x.kind).wf = true ∧ (Lit.int .i64 x.a).wf = true ∧ (Lit.int .i64 x.b).wf = true

structure Entry where
  gen : Int
  name : List UInt8
  cookie : Int
  attr : Post
  fh : List UInt8
  deriving DecidableEq
def Entry.vals (x : Entry) : List Value := [.int .i64 x.gen, .string (bs x.name), .int .i64 x.cookie] ++ (x.attr.vals ++ [.string (bs x.fh)])
theorem Entry.len (x : Entry) : x.vals.length = 15 := rfl
theorem Entry.one (x : Entry) : ∀ v ∈ x.vals, v.oneCell' = true := by
  intro v hv
  unfold Entry.vals at hv
  rcases List.mem_append.1 hv with hv | hv
  · simp only [List.mem_cons, List.not_mem_nil, or_false] at hv
    rcases hv with rfl | rfl | rfl <;> rfl
  · rcases List.mem_append.1 hv with hv | hv
    · exact Post.one _ v hv
    · simp only [List.mem_cons, List.not_mem_nil, or_false] at hv
      subst hv; rfl
theorem Entry.at0 (x : Entry) (h : 0 < x.vals.length) : x.vals[0] = .int .i64 x.gen := rfl
theorem Entry.lat0 (x : Entry) : x.vals[0]? = some (.int .i64 x.gen) := rfl
theorem Entry.at1 (x : Entry) (h : 1 < x.vals.length) : x.vals[1] = .string (bs x.name) := rfl
theorem Entry.lat1 (x : Entry) : x.vals[1]? = some (.string (bs x.name)) := rfl
theorem Entry.at2 (x : Entry) (h : 2 < x.vals.length) : x.vals[2] = .int .i64 x.cookie := rfl
theorem Entry.lat2 (x : Entry) : x.vals[2]? = some (.int .i64 x.cookie) := rfl
theorem Entry.at3 (x : Entry) (h : 3 < x.vals.length) : x.vals[3] = .bool x.attr.is := rfl
theorem Entry.lat3 (x : Entry) : x.vals[3]? = some (.bool x.attr.is) := rfl
theorem Entry.at4 (x : Entry) (h : 4 < x.vals.length) : x.vals[4] = .int .i64 x.attr.attr.type := rfl
theorem Entry.lat4 (x : Entry) : x.vals[4]? = some (.int .i64 x.attr.attr.type) := rfl
theorem Entry.at5 (x : Entry) (h : 5 < x.vals.length) : x.vals[5] = .int .i64 x.attr.attr.mode := rfl
theorem Entry.lat5 (x : Entry) : x.vals[5]? = some (.int .i64 x.attr.attr.mode) := rfl
theorem Entry.at6 (x : Entry) (h : 6 < x.vals.length) : x.vals[6] = .int .i64 x.attr.attr.nlink := rfl
theorem Entry.lat6 (x : Entry) : x.vals[6]? = some (.int .i64 x.attr.attr.nlink) := rfl
theorem Entry.at7 (x : Entry) (h : 7 < x.vals.length) : x.vals[7] = .int .i64 x.attr.attr.uid := rfl
theorem Entry.lat7 (x : Entry) : x.vals[7]? = some (.int .i64 x.attr.attr.uid) := rfl
theorem Entry.at8 (x : Entry) (h : 8 < x.vals.length) : x.vals[8] = .int .i64 x.attr.attr.gid := rfl
theorem Entry.lat8 (x : Entry) : x.vals[8]? = some (.int .i64 x.attr.attr.gid) := rfl
theorem Entry.at9 (x : Entry) (h : 9 < x.vals.length) : x.vals[9] = .int .i64 x.attr.attr.size := rfl
theorem Entry.lat9 (x : Entry) : x.vals[9]? = some (.int .i64 x.attr.attr.size) := rfl
theorem Entry.at10 (x : Entry) (h : 10 < x.vals.length) : x.vals[10] = .int .i64 x.attr.attr.id := rfl
theorem Entry.lat10 (x : Entry) : x.vals[10]? = some (.int .i64 x.attr.attr.id) := rfl
theorem Entry.at11 (x : Entry) (h : 11 < x.vals.length) : x.vals[11] = .int .i64 x.attr.attr.gen := rfl
theorem Entry.lat11 (x : Entry) : x.vals[11]? = some (.int .i64 x.attr.attr.gen) := rfl
theorem Entry.at12 (x : Entry) (h : 12 < x.vals.length) : x.vals[12] = .int .i64 x.attr.attr.change := rfl
theorem Entry.lat12 (x : Entry) : x.vals[12]? = some (.int .i64 x.attr.attr.change) := rfl
theorem Entry.at13 (x : Entry) (h : 13 < x.vals.length) : x.vals[13] = .int .i64 x.attr.attr.time := rfl
theorem Entry.lat13 (x : Entry) : x.vals[13]? = some (.int .i64 x.attr.attr.time) := rfl
theorem Entry.at14 (x : Entry) (h : 14 < x.vals.length) : x.vals[14] = .string (bs x.fh) := rfl
theorem Entry.lat14 (x : Entry) : x.vals[14]? = some (.string (bs x.fh)) := rfl
theorem Entry.sub0_15 (x : Entry) : x.vals.toArray.extract 0 15 = x.vals.toArray := (List.extract_toArray ..).trans (congrArg List.toArray (show _ = x.vals from rfl))
theorem Entry.lsub0_15 (x : Entry) : x.vals.take 15 = x.vals := rfl
theorem Entry.sub3_11 (x : Entry) : x.vals.toArray.extract 3 14 = x.attr.vals.toArray := (List.extract_toArray ..).trans (congrArg List.toArray (show _ = x.attr.vals from rfl))
theorem Entry.lsub3_11 (x : Entry) : (x.vals.drop 3).take 11 = x.attr.vals := rfl
theorem Entry.sub4_10 (x : Entry) : x.vals.toArray.extract 4 14 = x.attr.attr.vals.toArray := (List.extract_toArray ..).trans (congrArg List.toArray (show _ = x.attr.attr.vals from rfl))
theorem Entry.lsub4_10 (x : Entry) : (x.vals.drop 4).take 10 = x.attr.attr.vals := rfl
def Entry.good (x : Entry) : Prop := (Lit.int .i64 x.gen).wf = true ∧ x.name.length ≤ maxLen ∧ (Lit.int .i64 x.cookie).wf = true ∧ x.attr.good ∧ x.fh.length ≤ maxLen

structure Call where
  proc : Int
  fh : List UInt8
  name : List UInt8
  fh2 : List UInt8
  name2 : List UInt8
  offset : Int
  count : Int
  how : Int
  data : List UInt8
  set : Sett
  guard : Opt
  cookie : Int
  verf : Int
  text : List UInt8
  deriving DecidableEq
def Call.vals (x : Call) : List Value := [.int .i64 x.proc, .string (bs x.fh), .string (bs x.name), .string (bs x.fh2), .string (bs x.name2), .int .i64 x.offset, .int .i64 x.count, .int .i64 x.how, .string (bs x.data)] ++ (x.set.vals ++ (x.guard.vals ++ [.int .i64 x.cookie, .int .i64 x.verf, .string (bs x.text)]))
theorem Call.len (x : Call) : x.vals.length = 24 := rfl
theorem Call.one (x : Call) : ∀ v ∈ x.vals, v.oneCell' = true := by
  intro v hv
  unfold Call.vals at hv
  rcases List.mem_append.1 hv with hv | hv
  · simp only [List.mem_cons, List.not_mem_nil, or_false] at hv
    rcases hv with rfl | rfl | rfl | rfl | rfl | rfl | rfl | rfl | rfl <;> rfl
  · rcases List.mem_append.1 hv with hv | hv
    · exact Sett.one _ v hv
    · rcases List.mem_append.1 hv with hv | hv
      · exact Opt.one _ v hv
      · simp only [List.mem_cons, List.not_mem_nil, or_false] at hv
        rcases hv with rfl | rfl | rfl <;> rfl
theorem Call.at0 (x : Call) (h : 0 < x.vals.length) : x.vals[0] = .int .i64 x.proc := rfl
theorem Call.lat0 (x : Call) : x.vals[0]? = some (.int .i64 x.proc) := rfl
theorem Call.at1 (x : Call) (h : 1 < x.vals.length) : x.vals[1] = .string (bs x.fh) := rfl
theorem Call.lat1 (x : Call) : x.vals[1]? = some (.string (bs x.fh)) := rfl
theorem Call.at2 (x : Call) (h : 2 < x.vals.length) : x.vals[2] = .string (bs x.name) := rfl
theorem Call.lat2 (x : Call) : x.vals[2]? = some (.string (bs x.name)) := rfl
theorem Call.at3 (x : Call) (h : 3 < x.vals.length) : x.vals[3] = .string (bs x.fh2) := rfl
theorem Call.lat3 (x : Call) : x.vals[3]? = some (.string (bs x.fh2)) := rfl
theorem Call.at4 (x : Call) (h : 4 < x.vals.length) : x.vals[4] = .string (bs x.name2) := rfl
theorem Call.lat4 (x : Call) : x.vals[4]? = some (.string (bs x.name2)) := rfl
theorem Call.at5 (x : Call) (h : 5 < x.vals.length) : x.vals[5] = .int .i64 x.offset := rfl
theorem Call.lat5 (x : Call) : x.vals[5]? = some (.int .i64 x.offset) := rfl
theorem Call.at6 (x : Call) (h : 6 < x.vals.length) : x.vals[6] = .int .i64 x.count := rfl
theorem Call.lat6 (x : Call) : x.vals[6]? = some (.int .i64 x.count) := rfl
theorem Call.at7 (x : Call) (h : 7 < x.vals.length) : x.vals[7] = .int .i64 x.how := rfl
theorem Call.lat7 (x : Call) : x.vals[7]? = some (.int .i64 x.how) := rfl
theorem Call.at8 (x : Call) (h : 8 < x.vals.length) : x.vals[8] = .string (bs x.data) := rfl
theorem Call.lat8 (x : Call) : x.vals[8]? = some (.string (bs x.data)) := rfl
theorem Call.at9 (x : Call) (h : 9 < x.vals.length) : x.vals[9] = .bool x.set.mode.is := rfl
theorem Call.lat9 (x : Call) : x.vals[9]? = some (.bool x.set.mode.is) := rfl
theorem Call.at10 (x : Call) (h : 10 < x.vals.length) : x.vals[10] = .int .i64 x.set.mode.n := rfl
theorem Call.lat10 (x : Call) : x.vals[10]? = some (.int .i64 x.set.mode.n) := rfl
theorem Call.at11 (x : Call) (h : 11 < x.vals.length) : x.vals[11] = .bool x.set.uid.is := rfl
theorem Call.lat11 (x : Call) : x.vals[11]? = some (.bool x.set.uid.is) := rfl
theorem Call.at12 (x : Call) (h : 12 < x.vals.length) : x.vals[12] = .int .i64 x.set.uid.n := rfl
theorem Call.lat12 (x : Call) : x.vals[12]? = some (.int .i64 x.set.uid.n) := rfl
theorem Call.at13 (x : Call) (h : 13 < x.vals.length) : x.vals[13] = .bool x.set.gid.is := rfl
theorem Call.lat13 (x : Call) : x.vals[13]? = some (.bool x.set.gid.is) := rfl
theorem Call.at14 (x : Call) (h : 14 < x.vals.length) : x.vals[14] = .int .i64 x.set.gid.n := rfl
theorem Call.lat14 (x : Call) : x.vals[14]? = some (.int .i64 x.set.gid.n) := rfl
theorem Call.at15 (x : Call) (h : 15 < x.vals.length) : x.vals[15] = .bool x.set.size.is := rfl
theorem Call.lat15 (x : Call) : x.vals[15]? = some (.bool x.set.size.is) := rfl
theorem Call.at16 (x : Call) (h : 16 < x.vals.length) : x.vals[16] = .int .i64 x.set.size.n := rfl
theorem Call.lat16 (x : Call) : x.vals[16]? = some (.int .i64 x.set.size.n) := rfl
theorem Call.at17 (x : Call) (h : 17 < x.vals.length) : x.vals[17] = .bool x.set.time.is := rfl
theorem Call.lat17 (x : Call) : x.vals[17]? = some (.bool x.set.time.is) := rfl
theorem Call.at18 (x : Call) (h : 18 < x.vals.length) : x.vals[18] = .int .i64 x.set.time.n := rfl
theorem Call.lat18 (x : Call) : x.vals[18]? = some (.int .i64 x.set.time.n) := rfl
theorem Call.at19 (x : Call) (h : 19 < x.vals.length) : x.vals[19] = .bool x.guard.is := rfl
theorem Call.lat19 (x : Call) : x.vals[19]? = some (.bool x.guard.is) := rfl
theorem Call.at20 (x : Call) (h : 20 < x.vals.length) : x.vals[20] = .int .i64 x.guard.n := rfl
theorem Call.lat20 (x : Call) : x.vals[20]? = some (.int .i64 x.guard.n) := rfl
theorem Call.at21 (x : Call) (h : 21 < x.vals.length) : x.vals[21] = .int .i64 x.cookie := rfl
theorem Call.lat21 (x : Call) : x.vals[21]? = some (.int .i64 x.cookie) := rfl
theorem Call.at22 (x : Call) (h : 22 < x.vals.length) : x.vals[22] = .int .i64 x.verf := rfl
theorem Call.lat22 (x : Call) : x.vals[22]? = some (.int .i64 x.verf) := rfl
theorem Call.at23 (x : Call) (h : 23 < x.vals.length) : x.vals[23] = .string (bs x.text) := rfl
theorem Call.lat23 (x : Call) : x.vals[23]? = some (.string (bs x.text)) := rfl
theorem Call.sub0_24 (x : Call) : x.vals.toArray.extract 0 24 = x.vals.toArray := (List.extract_toArray ..).trans (congrArg List.toArray (show _ = x.vals from rfl))
theorem Call.lsub0_24 (x : Call) : x.vals.take 24 = x.vals := rfl
theorem Call.sub9_10 (x : Call) : x.vals.toArray.extract 9 19 = x.set.vals.toArray := (List.extract_toArray ..).trans (congrArg List.toArray (show _ = x.set.vals from rfl))
theorem Call.lsub9_10 (x : Call) : (x.vals.drop 9).take 10 = x.set.vals := rfl
theorem Call.sub9_2 (x : Call) : x.vals.toArray.extract 9 11 = x.set.mode.vals.toArray := (List.extract_toArray ..).trans (congrArg List.toArray (show _ = x.set.mode.vals from rfl))
theorem Call.lsub9_2 (x : Call) : (x.vals.drop 9).take 2 = x.set.mode.vals := rfl
theorem Call.sub11_2 (x : Call) : x.vals.toArray.extract 11 13 = x.set.uid.vals.toArray := (List.extract_toArray ..).trans (congrArg List.toArray (show _ = x.set.uid.vals from rfl))
theorem Call.lsub11_2 (x : Call) : (x.vals.drop 11).take 2 = x.set.uid.vals := rfl
theorem Call.sub13_2 (x : Call) : x.vals.toArray.extract 13 15 = x.set.gid.vals.toArray := (List.extract_toArray ..).trans (congrArg List.toArray (show _ = x.set.gid.vals from rfl))
theorem Call.lsub13_2 (x : Call) : (x.vals.drop 13).take 2 = x.set.gid.vals := rfl
theorem Call.sub15_2 (x : Call) : x.vals.toArray.extract 15 17 = x.set.size.vals.toArray := (List.extract_toArray ..).trans (congrArg List.toArray (show _ = x.set.size.vals from rfl))
theorem Call.lsub15_2 (x : Call) : (x.vals.drop 15).take 2 = x.set.size.vals := rfl
theorem Call.sub17_2 (x : Call) : x.vals.toArray.extract 17 19 = x.set.time.vals.toArray := (List.extract_toArray ..).trans (congrArg List.toArray (show _ = x.set.time.vals from rfl))
theorem Call.lsub17_2 (x : Call) : (x.vals.drop 17).take 2 = x.set.time.vals := rfl
theorem Call.sub19_2 (x : Call) : x.vals.toArray.extract 19 21 = x.guard.vals.toArray := (List.extract_toArray ..).trans (congrArg List.toArray (show _ = x.guard.vals from rfl))
theorem Call.lsub19_2 (x : Call) : (x.vals.drop 19).take 2 = x.guard.vals := rfl
def Call.good (x : Call) : Prop := (Lit.int .i64 x.proc).wf = true ∧ x.fh.length ≤ maxLen ∧ x.name.length ≤ maxLen ∧ x.fh2.length ≤ maxLen ∧ x.name2.length ≤ maxLen ∧ (Lit.int .i64 x.offset).wf = true ∧ (Lit.int .i64 x.count).wf = true ∧ (Lit.int .i64 x.how).wf = true ∧ x.data.length ≤ maxLen ∧ x.set.good ∧ x.guard.good ∧ (Lit.int .i64 x.cookie).wf = true ∧ (Lit.int .i64 x.verf).wf = true ∧ x.text.length ≤ maxLen

structure Message where
  xid : Int
  answer : Bool
  again : Bool
  proc : Int
  cred : Cred
  accept : Int
  body : List UInt8
  deriving DecidableEq
def Message.vals (x : Message) : List Value := [.int .i64 x.xid, .bool x.answer, .bool x.again, .int .i64 x.proc] ++ (x.cred.vals ++ [.int .i64 x.accept, .string (bs x.body)])
theorem Message.len (x : Message) : x.vals.length = 10 := rfl
theorem Message.one (x : Message) : ∀ v ∈ x.vals, v.oneCell' = true := by
  intro v hv
  unfold Message.vals at hv
  rcases List.mem_append.1 hv with hv | hv
  · simp only [List.mem_cons, List.not_mem_nil, or_false] at hv
    rcases hv with rfl | rfl | rfl | rfl <;> rfl
  · rcases List.mem_append.1 hv with hv | hv
    · exact Cred.one _ v hv
    · simp only [List.mem_cons, List.not_mem_nil, or_false] at hv
      rcases hv with rfl | rfl <;> rfl
theorem Message.at0 (x : Message) (h : 0 < x.vals.length) : x.vals[0] = .int .i64 x.xid := rfl
theorem Message.lat0 (x : Message) : x.vals[0]? = some (.int .i64 x.xid) := rfl
theorem Message.at1 (x : Message) (h : 1 < x.vals.length) : x.vals[1] = .bool x.answer := rfl
theorem Message.lat1 (x : Message) : x.vals[1]? = some (.bool x.answer) := rfl
theorem Message.at2 (x : Message) (h : 2 < x.vals.length) : x.vals[2] = .bool x.again := rfl
theorem Message.lat2 (x : Message) : x.vals[2]? = some (.bool x.again) := rfl
theorem Message.at3 (x : Message) (h : 3 < x.vals.length) : x.vals[3] = .int .i64 x.proc := rfl
theorem Message.lat3 (x : Message) : x.vals[3]? = some (.int .i64 x.proc) := rfl
theorem Message.at4 (x : Message) (h : 4 < x.vals.length) : x.vals[4] = .int .i64 x.cred.client := rfl
theorem Message.lat4 (x : Message) : x.vals[4]? = some (.int .i64 x.cred.client) := rfl
theorem Message.at5 (x : Message) (h : 5 < x.vals.length) : x.vals[5] = .int .i64 x.cred.seq := rfl
theorem Message.lat5 (x : Message) : x.vals[5]? = some (.int .i64 x.cred.seq) := rfl
theorem Message.at6 (x : Message) (h : 6 < x.vals.length) : x.vals[6] = .int .i64 x.cred.uid := rfl
theorem Message.lat6 (x : Message) : x.vals[6]? = some (.int .i64 x.cred.uid) := rfl
theorem Message.at7 (x : Message) (h : 7 < x.vals.length) : x.vals[7] = .int .i64 x.cred.gid := rfl
theorem Message.lat7 (x : Message) : x.vals[7]? = some (.int .i64 x.cred.gid) := rfl
theorem Message.at8 (x : Message) (h : 8 < x.vals.length) : x.vals[8] = .int .i64 x.accept := rfl
theorem Message.lat8 (x : Message) : x.vals[8]? = some (.int .i64 x.accept) := rfl
theorem Message.at9 (x : Message) (h : 9 < x.vals.length) : x.vals[9] = .string (bs x.body) := rfl
theorem Message.lat9 (x : Message) : x.vals[9]? = some (.string (bs x.body)) := rfl
theorem Message.sub0_10 (x : Message) : x.vals.toArray.extract 0 10 = x.vals.toArray := (List.extract_toArray ..).trans (congrArg List.toArray (show _ = x.vals from rfl))
theorem Message.lsub0_10 (x : Message) : x.vals.take 10 = x.vals := rfl
theorem Message.sub4_4 (x : Message) : x.vals.toArray.extract 4 8 = x.cred.vals.toArray := (List.extract_toArray ..).trans (congrArg List.toArray (show _ = x.cred.vals from rfl))
theorem Message.lsub4_4 (x : Message) : (x.vals.drop 4).take 4 = x.cred.vals := rfl
def Message.good (x : Message) : Prop := (Lit.int .i64 x.xid).wf = true ∧ (Lit.int .i64 x.proc).wf = true ∧ x.cred.good ∧ (Lit.int .i64 x.accept).wf = true ∧ x.body.length ≤ maxLen

structure Change where
  kind : Int
  epoch : Int
  serial : Int
  up : List UInt8
  name : List UInt8
  child : List UInt8
  attr : Attr
  no : Int
  slot : Int
  deriving DecidableEq
def Change.vals (x : Change) : List Value := [.int .i64 x.kind, .int .i64 x.epoch, .int .i64 x.serial, .string (bs x.up), .string (bs x.name), .string (bs x.child)] ++ (x.attr.vals ++ [.int .i64 x.no, .int .i64 x.slot])
theorem Change.len (x : Change) : x.vals.length = 18 := rfl
theorem Change.one (x : Change) : ∀ v ∈ x.vals, v.oneCell' = true := by
  intro v hv
  unfold Change.vals at hv
  rcases List.mem_append.1 hv with hv | hv
  · simp only [List.mem_cons, List.not_mem_nil, or_false] at hv
    rcases hv with rfl | rfl | rfl | rfl | rfl | rfl <;> rfl
  · rcases List.mem_append.1 hv with hv | hv
    · exact Attr.one _ v hv
    · simp only [List.mem_cons, List.not_mem_nil, or_false] at hv
      rcases hv with rfl | rfl <;> rfl
theorem Change.at0 (x : Change) (h : 0 < x.vals.length) : x.vals[0] = .int .i64 x.kind := rfl
theorem Change.lat0 (x : Change) : x.vals[0]? = some (.int .i64 x.kind) := rfl
theorem Change.at1 (x : Change) (h : 1 < x.vals.length) : x.vals[1] = .int .i64 x.epoch := rfl
theorem Change.lat1 (x : Change) : x.vals[1]? = some (.int .i64 x.epoch) := rfl
theorem Change.at2 (x : Change) (h : 2 < x.vals.length) : x.vals[2] = .int .i64 x.serial := rfl
theorem Change.lat2 (x : Change) : x.vals[2]? = some (.int .i64 x.serial) := rfl
theorem Change.at3 (x : Change) (h : 3 < x.vals.length) : x.vals[3] = .string (bs x.up) := rfl
theorem Change.lat3 (x : Change) : x.vals[3]? = some (.string (bs x.up)) := rfl
theorem Change.at4 (x : Change) (h : 4 < x.vals.length) : x.vals[4] = .string (bs x.name) := rfl
theorem Change.lat4 (x : Change) : x.vals[4]? = some (.string (bs x.name)) := rfl
theorem Change.at5 (x : Change) (h : 5 < x.vals.length) : x.vals[5] = .string (bs x.child) := rfl
theorem Change.lat5 (x : Change) : x.vals[5]? = some (.string (bs x.child)) := rfl
theorem Change.at6 (x : Change) (h : 6 < x.vals.length) : x.vals[6] = .int .i64 x.attr.type := rfl
theorem Change.lat6 (x : Change) : x.vals[6]? = some (.int .i64 x.attr.type) := rfl
theorem Change.at7 (x : Change) (h : 7 < x.vals.length) : x.vals[7] = .int .i64 x.attr.mode := rfl
theorem Change.lat7 (x : Change) : x.vals[7]? = some (.int .i64 x.attr.mode) := rfl
theorem Change.at8 (x : Change) (h : 8 < x.vals.length) : x.vals[8] = .int .i64 x.attr.nlink := rfl
theorem Change.lat8 (x : Change) : x.vals[8]? = some (.int .i64 x.attr.nlink) := rfl
theorem Change.at9 (x : Change) (h : 9 < x.vals.length) : x.vals[9] = .int .i64 x.attr.uid := rfl
theorem Change.lat9 (x : Change) : x.vals[9]? = some (.int .i64 x.attr.uid) := rfl
theorem Change.at10 (x : Change) (h : 10 < x.vals.length) : x.vals[10] = .int .i64 x.attr.gid := rfl
theorem Change.lat10 (x : Change) : x.vals[10]? = some (.int .i64 x.attr.gid) := rfl
theorem Change.at11 (x : Change) (h : 11 < x.vals.length) : x.vals[11] = .int .i64 x.attr.size := rfl
theorem Change.lat11 (x : Change) : x.vals[11]? = some (.int .i64 x.attr.size) := rfl
theorem Change.at12 (x : Change) (h : 12 < x.vals.length) : x.vals[12] = .int .i64 x.attr.id := rfl
theorem Change.lat12 (x : Change) : x.vals[12]? = some (.int .i64 x.attr.id) := rfl
theorem Change.at13 (x : Change) (h : 13 < x.vals.length) : x.vals[13] = .int .i64 x.attr.gen := rfl
theorem Change.lat13 (x : Change) : x.vals[13]? = some (.int .i64 x.attr.gen) := rfl
theorem Change.at14 (x : Change) (h : 14 < x.vals.length) : x.vals[14] = .int .i64 x.attr.change := rfl
theorem Change.lat14 (x : Change) : x.vals[14]? = some (.int .i64 x.attr.change) := rfl
theorem Change.at15 (x : Change) (h : 15 < x.vals.length) : x.vals[15] = .int .i64 x.attr.time := rfl
theorem Change.lat15 (x : Change) : x.vals[15]? = some (.int .i64 x.attr.time) := rfl
theorem Change.at16 (x : Change) (h : 16 < x.vals.length) : x.vals[16] = .int .i64 x.no := rfl
theorem Change.lat16 (x : Change) : x.vals[16]? = some (.int .i64 x.no) := rfl
theorem Change.at17 (x : Change) (h : 17 < x.vals.length) : x.vals[17] = .int .i64 x.slot := rfl
theorem Change.lat17 (x : Change) : x.vals[17]? = some (.int .i64 x.slot) := rfl
theorem Change.sub0_18 (x : Change) : x.vals.toArray.extract 0 18 = x.vals.toArray := (List.extract_toArray ..).trans (congrArg List.toArray (show _ = x.vals from rfl))
theorem Change.lsub0_18 (x : Change) : x.vals.take 18 = x.vals := rfl
theorem Change.sub6_10 (x : Change) : x.vals.toArray.extract 6 16 = x.attr.vals.toArray := (List.extract_toArray ..).trans (congrArg List.toArray (show _ = x.attr.vals from rfl))
theorem Change.lsub6_10 (x : Change) : (x.vals.drop 6).take 10 = x.attr.vals := rfl
def Change.good (x : Change) : Prop := (Lit.int .i64 x.kind).wf = true ∧ (Lit.int .i64 x.epoch).wf = true ∧ (Lit.int .i64 x.serial).wf = true ∧ x.up.length ≤ maxLen ∧ x.name.length ≤ maxLen ∧ x.child.length ≤ maxLen ∧ x.attr.good ∧ (Lit.int .i64 x.no).wf = true ∧ (Lit.int .i64 x.slot).wf = true

structure Held where
  epoch : Int
  serial : Int
  up : List UInt8
  deriving DecidableEq
def Held.vals (x : Held) : List Value := [.int .i64 x.epoch, .int .i64 x.serial, .string (bs x.up)]
theorem Held.len (x : Held) : x.vals.length = 3 := rfl
theorem Held.one (x : Held) : ∀ v ∈ x.vals, v.oneCell' = true := by
  intro v hv
  unfold Held.vals at hv
  simp only [List.mem_cons, List.not_mem_nil, or_false] at hv
  rcases hv with rfl | rfl | rfl <;> rfl
theorem Held.at0 (x : Held) (h : 0 < x.vals.length) : x.vals[0] = .int .i64 x.epoch := rfl
theorem Held.lat0 (x : Held) : x.vals[0]? = some (.int .i64 x.epoch) := rfl
theorem Held.at1 (x : Held) (h : 1 < x.vals.length) : x.vals[1] = .int .i64 x.serial := rfl
theorem Held.lat1 (x : Held) : x.vals[1]? = some (.int .i64 x.serial) := rfl
theorem Held.at2 (x : Held) (h : 2 < x.vals.length) : x.vals[2] = .string (bs x.up) := rfl
theorem Held.lat2 (x : Held) : x.vals[2]? = some (.string (bs x.up)) := rfl
theorem Held.sub0_3 (x : Held) : x.vals.toArray.extract 0 3 = x.vals.toArray := (List.extract_toArray ..).trans (congrArg List.toArray (show _ = x.vals from rfl))
theorem Held.lsub0_3 (x : Held) : x.vals.take 3 = x.vals := rfl
def Held.good (x : Held) : Prop := (Lit.int .i64 x.epoch).wf = true ∧ (Lit.int .i64 x.serial).wf = true ∧ x.up.length ≤ maxLen

structure Cached where
  up : List UInt8
  attr : Attr
  deriving DecidableEq
def Cached.vals (x : Cached) : List Value := [.string (bs x.up)] ++ x.attr.vals
theorem Cached.len (x : Cached) : x.vals.length = 11 := rfl
theorem Cached.one (x : Cached) : ∀ v ∈ x.vals, v.oneCell' = true := by
  intro v hv
  unfold Cached.vals at hv
  rcases List.mem_append.1 hv with hv | hv
  · simp only [List.mem_cons, List.not_mem_nil, or_false] at hv
    subst hv; rfl
  · exact Attr.one _ v hv
theorem Cached.at0 (x : Cached) (h : 0 < x.vals.length) : x.vals[0] = .string (bs x.up) := rfl
theorem Cached.lat0 (x : Cached) : x.vals[0]? = some (.string (bs x.up)) := rfl
theorem Cached.at1 (x : Cached) (h : 1 < x.vals.length) : x.vals[1] = .int .i64 x.attr.type := rfl
theorem Cached.lat1 (x : Cached) : x.vals[1]? = some (.int .i64 x.attr.type) := rfl
theorem Cached.at2 (x : Cached) (h : 2 < x.vals.length) : x.vals[2] = .int .i64 x.attr.mode := rfl
theorem Cached.lat2 (x : Cached) : x.vals[2]? = some (.int .i64 x.attr.mode) := rfl
theorem Cached.at3 (x : Cached) (h : 3 < x.vals.length) : x.vals[3] = .int .i64 x.attr.nlink := rfl
theorem Cached.lat3 (x : Cached) : x.vals[3]? = some (.int .i64 x.attr.nlink) := rfl
theorem Cached.at4 (x : Cached) (h : 4 < x.vals.length) : x.vals[4] = .int .i64 x.attr.uid := rfl
theorem Cached.lat4 (x : Cached) : x.vals[4]? = some (.int .i64 x.attr.uid) := rfl
theorem Cached.at5 (x : Cached) (h : 5 < x.vals.length) : x.vals[5] = .int .i64 x.attr.gid := rfl
theorem Cached.lat5 (x : Cached) : x.vals[5]? = some (.int .i64 x.attr.gid) := rfl
theorem Cached.at6 (x : Cached) (h : 6 < x.vals.length) : x.vals[6] = .int .i64 x.attr.size := rfl
theorem Cached.lat6 (x : Cached) : x.vals[6]? = some (.int .i64 x.attr.size) := rfl
theorem Cached.at7 (x : Cached) (h : 7 < x.vals.length) : x.vals[7] = .int .i64 x.attr.id := rfl
theorem Cached.lat7 (x : Cached) : x.vals[7]? = some (.int .i64 x.attr.id) := rfl
theorem Cached.at8 (x : Cached) (h : 8 < x.vals.length) : x.vals[8] = .int .i64 x.attr.gen := rfl
theorem Cached.lat8 (x : Cached) : x.vals[8]? = some (.int .i64 x.attr.gen) := rfl
theorem Cached.at9 (x : Cached) (h : 9 < x.vals.length) : x.vals[9] = .int .i64 x.attr.change := rfl
theorem Cached.lat9 (x : Cached) : x.vals[9]? = some (.int .i64 x.attr.change) := rfl
theorem Cached.at10 (x : Cached) (h : 10 < x.vals.length) : x.vals[10] = .int .i64 x.attr.time := rfl
theorem Cached.lat10 (x : Cached) : x.vals[10]? = some (.int .i64 x.attr.time) := rfl
theorem Cached.sub0_11 (x : Cached) : x.vals.toArray.extract 0 11 = x.vals.toArray := (List.extract_toArray ..).trans (congrArg List.toArray (show _ = x.vals from rfl))
theorem Cached.lsub0_11 (x : Cached) : x.vals.take 11 = x.vals := rfl
theorem Cached.sub1_10 (x : Cached) : x.vals.toArray.extract 1 11 = x.attr.vals.toArray := (List.extract_toArray ..).trans (congrArg List.toArray (show _ = x.attr.vals from rfl))
theorem Cached.lsub1_10 (x : Cached) : x.vals.tail.take 10 = x.attr.vals := rfl
def Cached.good (x : Cached) : Prop := x.up.length ≤ maxLen ∧ x.attr.good

structure Known where
  dir : List UInt8
  name : List UInt8
  up : List UInt8
  deriving DecidableEq
def Known.vals (x : Known) : List Value := [.string (bs x.dir), .string (bs x.name), .string (bs x.up)]
theorem Known.len (x : Known) : x.vals.length = 3 := rfl
theorem Known.one (x : Known) : ∀ v ∈ x.vals, v.oneCell' = true := by
  intro v hv
  unfold Known.vals at hv
  simp only [List.mem_cons, List.not_mem_nil, or_false] at hv
  rcases hv with rfl | rfl | rfl <;> rfl
theorem Known.at0 (x : Known) (h : 0 < x.vals.length) : x.vals[0] = .string (bs x.dir) := rfl
theorem Known.lat0 (x : Known) : x.vals[0]? = some (.string (bs x.dir)) := rfl
theorem Known.at1 (x : Known) (h : 1 < x.vals.length) : x.vals[1] = .string (bs x.name) := rfl
theorem Known.lat1 (x : Known) : x.vals[1]? = some (.string (bs x.name)) := rfl
theorem Known.at2 (x : Known) (h : 2 < x.vals.length) : x.vals[2] = .string (bs x.up) := rfl
theorem Known.lat2 (x : Known) : x.vals[2]? = some (.string (bs x.up)) := rfl
theorem Known.sub0_3 (x : Known) : x.vals.toArray.extract 0 3 = x.vals.toArray := (List.extract_toArray ..).trans (congrArg List.toArray (show _ = x.vals from rfl))
theorem Known.lsub0_3 (x : Known) : x.vals.take 3 = x.vals := rfl
def Known.good (x : Known) : Prop := x.dir.length ≤ maxLen ∧ x.name.length ≤ maxLen ∧ x.up.length ≤ maxLen

structure Placed where
  up : List UInt8
  no : Int
  slot : Int
  deriving DecidableEq
def Placed.vals (x : Placed) : List Value := [.string (bs x.up), .int .i64 x.no, .int .i64 x.slot]
theorem Placed.len (x : Placed) : x.vals.length = 3 := rfl
theorem Placed.one (x : Placed) : ∀ v ∈ x.vals, v.oneCell' = true := by
  intro v hv
  unfold Placed.vals at hv
  simp only [List.mem_cons, List.not_mem_nil, or_false] at hv
  rcases hv with rfl | rfl | rfl <;> rfl
theorem Placed.at0 (x : Placed) (h : 0 < x.vals.length) : x.vals[0] = .string (bs x.up) := rfl
theorem Placed.lat0 (x : Placed) : x.vals[0]? = some (.string (bs x.up)) := rfl
theorem Placed.at1 (x : Placed) (h : 1 < x.vals.length) : x.vals[1] = .int .i64 x.no := rfl
theorem Placed.lat1 (x : Placed) : x.vals[1]? = some (.int .i64 x.no) := rfl
theorem Placed.at2 (x : Placed) (h : 2 < x.vals.length) : x.vals[2] = .int .i64 x.slot := rfl
theorem Placed.lat2 (x : Placed) : x.vals[2]? = some (.int .i64 x.slot) := rfl
theorem Placed.sub0_3 (x : Placed) : x.vals.toArray.extract 0 3 = x.vals.toArray := (List.extract_toArray ..).trans (congrArg List.toArray (show _ = x.vals from rfl))
theorem Placed.lsub0_3 (x : Placed) : x.vals.take 3 = x.vals := rfl
def Placed.good (x : Placed) : Prop := x.up.length ≤ maxLen ∧ (Lit.int .i64 x.no).wf = true ∧ (Lit.int .i64 x.slot).wf = true

end Go.Proofs.YtfjflkmhhbhceaaGreatDoor

/-
  Layer 21 in plain words: how many bytes nodes use, which number is free, what room there is. No condition.
-/
namespace Go.Proofs.YtfjflkmhhbhceaaGreatDoor
open Go.RowKit

def used (ns : List Nd) : Nat := (ns.map fun n => n.data.size).sum
def owned (ns : List Nd) (uid : Int) : Nat := used (ns.filter fun n => n.attr.uid == uid)
def small (ns : List Nd) : Prop := ns.length ≤ 70 ∧ ∀ n ∈ ns, n.data.size ≤ 2000

theorem used_snoc (ns : List Nd) (n : Nd) : used (ns ++ [n]) = used ns + n.data.size := by simp [used]
theorem used_le (ns : List Nd) (h : ∀ n ∈ ns, n.data.size ≤ 2000) : used ns ≤ 2000 * ns.length := by
  induction ns with
  | nil => simp [used]
  | cons n ns ih =>
    have h1 := h n (by simp)
    have h2 := ih fun m hm => h m (by simp [hm])
    simp only [used, List.map_cons, List.sum_cons, List.length_cons] at *
    omega
theorem used_filter_le (ns : List Nd) (p : Nd → Bool) : used (ns.filter p) ≤ used ns := by
  induction ns with
  | nil => simp [used]
  | cons n ns ih =>
    simp only [used, List.filter_cons, List.map_cons, List.sum_cons] at *
    split
    · simp only [List.map_cons, List.sum_cons]; omega
    · omega
theorem take_succ (l : List Nd) (k : Nat) (hk : k < l.length) : l.take (k + 1) = l.take k ++ [l[k]] := List.take_succ_eq_append_getElem hk

theorem owned_succ (ns : List Nd) (uid : Int) (k : Nat) (hk : k < ns.length) : owned (ns.take (k + 1)) uid = if ns[k].attr.uid == uid then owned (ns.take k) uid + ns[k].data.size else owned (ns.take k) uid := by
  unfold owned
  rw [take_succ _ _ hk, List.filter_append]
  by_cases h : (ns[k].attr.uid == uid) = true
  · rw [if_pos h]; simp only [List.filter_cons, h, if_true, List.filter_nil]; exact used_snoc _ _
  · rw [if_neg h]; simp only [List.filter_cons, h, List.filter_nil]; simp
theorem owned_hit {ns : List Nd} {uid : Int} {k : Nat} (hk : k < ns.length) (h : (ns[k].attr.uid == uid) = true) : owned (ns.take (k + 1)) uid = owned (ns.take k) uid + ns[k].data.size := by
  rw [owned_succ _ _ _ hk, if_pos h]
theorem owned_miss {ns : List Nd} {uid : Int} {k : Nat} (hk : k < ns.length) (h : (ns[k].attr.uid == uid) = false) : owned (ns.take (k + 1)) uid = owned (ns.take k) uid := by
  rw [owned_succ _ _ _ hk, if_neg (by simp [h])]

def bulky (n : Nd) : Bool := decide (2000 < n.data.size) || decide (70 < n.en)
def large (ns : List Nd) : Bool := (ns.take 70).any bulky || decide (70 < ns.length)
theorem large_yes {ns : List Nd} {k : Nat} (hk : k < ns.length) (h7 : k < 70) (h : bulky ns[k] = true) : large ns = true := by
  have h1 : ns[k] ∈ ns.take 70 := by
    have : (ns.take 70)[k]? = some ns[k] := by rw [List.getElem?_take, if_pos h7]; exact List.getElem?_eq_getElem hk
    exact List.mem_of_getElem? this
  unfold large; rw [List.any_eq_true.2 ⟨_, h1, h⟩]; rfl
theorem bulky_step {ns : List Nd} {k : Nat} (hk : k < ns.length) (hn : (ns.take k).any bulky = false) (h : bulky ns[k] = false) : (ns.take (k + 1)).any bulky = false := by
  rw [take_succ _ _ hk, List.any_append, hn]; simp [h]
theorem large_end {ns : List Nd} {k : Nat} (hk : k ≤ ns.length) (hk7 : k ≤ 70) (hn : (ns.take k).any bulky = false) (he : ¬ (k < ns.length ∧ k < 70)) : large ns = decide (70 < (ns.length : Int)) := by
  unfold large
  have : (ns.take 70).any bulky = false := by
    rcases Nat.lt_or_ge k 70 with h | h
    · rw [List.take_of_length_le (by omega)]
      rw [List.take_of_length_le (by omega)] at hn
      exact hn
    · obtain rfl : k = 70 := by omega
      exact hn
  rw [this, Bool.false_or]
  exact decide_eq_decide.2 (by omega)
theorem small_of {ns : List Nd} (h : large ns = false) : small ns := by
  unfold large at h
  simp only [Bool.or_eq_false_iff, decide_eq_false_iff_not] at h
  have hl : ns.length ≤ 70 := by omega
  refine ⟨hl, fun n hn => ?_⟩
  rw [List.take_of_length_le hl] at h
  have := List.any_eq_false.1 h.1 n hn
  simp only [bulky, Bool.or_eq_true, decide_eq_true_eq] at this
  omega

/-- the first place where p holds, or -1 -/
def findI {α : Type} (p : α → Bool) (l : List α) : Int := match l.findIdx? p with | some i => (i : Int) | none => -1
theorem findI_hit {α : Type} {p : α → Bool} {l : List α} {k : Nat} (hk : k < l.length) (hn : (l.take k).any p = false) (h : p l[k] = true) : findI p l = k := by
  unfold findI
  have : l.findIdx? p = some k := by
    rw [List.findIdx?_eq_some_iff_getElem]
    refine ⟨hk, h, fun j hj => ?_⟩
    have hm : l[j] ∈ l.take k := by
      have : (l.take k)[j]? = some l[j] := by rw [List.getElem?_take, if_pos hj]; exact List.getElem?_eq_getElem (by omega)
      exact List.mem_of_getElem? this
    have := List.any_eq_false.1 hn _ hm
    simpa using this
  rw [this]
theorem findI_none {α : Type} {p : α → Bool} {l : List α} (hn : l.any p = false) : findI p l = -1 := by
  unfold findI
  have : l.findIdx? p = none := by
    rw [List.findIdx?_eq_none_iff]
    intro x hx
    simpa using List.any_eq_false.1 hn x hx
  rw [this]
theorem findI_any {α : Type} (p : α → Bool) (l : List α) : decide (0 ≤ findI p l) = l.any p := by
  unfold findI
  cases h : l.findIdx? p with
  | none =>
    rw [List.findIdx?_eq_none_iff] at h
    symm
    rw [List.any_eq_false.2 (fun x hx => by simp [h x hx])]
    decide
  | some i =>
    obtain ⟨hi, hp, _⟩ := List.findIdx?_eq_some_iff_getElem.1 h
    symm
    rw [List.any_eq_true.2 ⟨_, List.getElem_mem hi, hp⟩]
    simp
theorem any_step {α : Type} {p : α → Bool} {l : List α} {k : Nat} (hk : k < l.length) (hn : (l.take k).any p = false) (h : p l[k] = false) : (l.take (k + 1)).any p = false := by
  rw [List.take_succ_eq_append_getElem hk, List.any_append, hn]; simp [h]
theorem any_end {α : Type} {p : α → Bool} {l : List α} {k : Nat} (hk : l.length ≤ k) (hn : (l.take k).any p = false) : l.any p = false := by
  rwa [List.take_of_length_le hk] at hn

/-- is a number taken? -/
def taken (ns : List Nd) (id : Int) : Bool := ns.any fun n => n.attr.id == id
theorem pigeon (m : Nat) : ∀ L : List Int, (∀ j : Nat, 1 ≤ j → j ≤ m → (j : Int) ∈ L) → m ≤ L.length := by
  induction m with
  | zero => intros; omega
  | succ m ih =>
    intro L h
    have h1 : ((m + 1 : Nat) : Int) ∈ L := h (m + 1) (by omega) (by omega)
    have := ih (L.erase ((m + 1 : Nat) : Int)) fun j h2 h3 => (List.mem_erase_of_ne (by omega)).2 (h j h2 (by omega))
    rw [List.length_erase_of_mem h1] at this
    have : 0 < L.length := List.length_pos_of_mem h1
    omega
theorem taken_le {ns : List Nd} {m : Nat} (h : ∀ j : Nat, 1 ≤ j → j ≤ m → taken ns j = true) : m ≤ ns.length := by
  have := pigeon m (ns.map fun n => n.attr.id) fun j h1 h2 => by
    obtain ⟨n, hn, he⟩ := List.any_eq_true.1 (h j h1 h2)
    exact List.mem_map.2 ⟨n, hn, by simpa using he⟩
  simpa using this
/-- the least number from 1 on that is free: 'id' is that -/
def Free (ns : List Nd) (id : Nat) : Prop := 1 ≤ id ∧ taken ns id = false ∧ ∀ j : Nat, 1 ≤ j → j < id → taken ns j = true
theorem Free.unique {ns : List Nd} {a b : Nat} (ha : Free ns a) (hb : Free ns b) : a = b := by
  rcases Nat.lt_trichotomy a b with h | h | h
  · have := hb.2.2 a ha.1 h; rw [ha.2.1] at this; cases this
  · exact h
  · have := ha.2.2 b hb.1 h; rw [hb.2.1] at this; cases this

/-- limits that may be -/
def Lim.ok (l : Lim) : Bool := decide (0 ≤ l.space) && decide (l.space ≤ 1073741824) && decide (0 ≤ l.quota) && decide (l.quota ≤ 1073741824) && decide (1 ≤ l.nodes) && decide (l.nodes ≤ 64)
theorem Lim.bounds {l : Lim} (h : l.ok = true) : 0 ≤ l.space ∧ l.space ≤ 1073741824 ∧ 0 ≤ l.quota ∧ l.quota ≤ 1073741824 ∧ 1 ≤ l.nodes ∧ l.nodes ≤ 64 := by
  simp only [Lim.ok, Bool.and_eq_true, decide_eq_true_eq] at h; omega
def free (t : Tr) : Int := max 0 (t.lim.space - used t.ns)
def left (t : Tr) (uid : Int) : Int := if uid == 0 then free t else min (free t) (max 0 (t.lim.quota - owned t.ns uid))
def room (t : Tr) (uid more : Int) : Int := if more < 1 then 0 else if free t < more then 28 else if left t uid < more then 69 else 0
def rroom (t : Tr) (uid more : Int) : Int :=
  if more < 1 then 0 else if t.lim.space - used t.ns < more then 28 else if uid ≠ 0 ∧ t.lim.quota - owned t.ns uid < more then 69 else 0
theorem room_same (t : Tr) (uid more : Int) : room t uid more = rroom t uid more := by
  unfold room rroom left free
  by_cases h1 : more < 1
  · rw [if_pos h1, if_pos h1]
  · rw [if_neg h1, if_neg h1]
    by_cases h2 : t.lim.space - used t.ns < more
    · rw [if_pos h2, if_pos (by omega)]
    · rw [if_neg h2, if_neg (by omega)]
      by_cases h3 : uid = 0
      · subst h3; simp; omega
      · simp only [beq_iff_eq, h3, if_false, ne_eq, not_false_eq_true, true_and]
        by_cases h4 : t.lim.quota - owned t.ns uid < more
        · rw [if_pos h4, if_pos (by omega)]
        · rw [if_neg h4, if_neg (by omega)]
theorem room_less {t : Tr} {uid more less : Int} (h : room t uid more = 0) (hl : less ≤ more) : room t uid less = 0 := by
  unfold room at *
  split at h
  · rw [if_pos (by omega)]
  · split at h
    · cases h
    · split at h
      · cases h
      · split
        · rfl
        · rw [if_neg (by omega), if_neg (by omega)]

end Go.Proofs.YtfjflkmhhbhceaaGreatDoor
