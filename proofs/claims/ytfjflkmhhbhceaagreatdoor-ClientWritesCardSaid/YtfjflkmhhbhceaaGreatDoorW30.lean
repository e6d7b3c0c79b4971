/-
  Layer 33, plain: what a client is, and what it does when it is asked, when something comes, and when time passes. No condition.
-/
import Derived.Test.YtfjflkmhhbhceaaGreatDoorW03
import Derived.Test.YtfjflkmhhbhceaaGreatDoorW15
import Derived.Test.YtfjflkmhhbhceaaGreatDoorW23
import Derived.Test.YtfjflkmhhbhceaaGreatDoorW25
import Derived.Test.YtfjflkmhhbhceaaGreatDoorW29
import Derived.Test.YtfjflkmhhbhceaaGreatDoorW06
import Derived.Test.YtfjflkmhhbhceaaGreatDoorW21
import Derived.Test.YtfjflkmhhbhceaaGreatDoorW16
import Derived.Laws.IdiomStrings
namespace Go.Proofs.YtfjflkmhhbhceaaGreatDoor
open Go.RowKit

/-- a record, with its results as they are told -/
structure RecdD where
  cred : Cred
  beg : Int
  fin : Int
  call : Call
  rep : RepD
/-- a client -/
structure ClD where
  id : Int
  self : Int
  server : Int
  ps : List CPlace
  parts : List CPart
  now : CPart
  busy : Bool
  sent : Packet
  due : Int
  made : Int
  recs : List RecdD
def timedC (n : Int) : Bool := decide (0 ≤ n) && decide (n ≤ 1099511627776)
def placeC (i : Int) : Bool := decide (0 ≤ i) && decide (i < 4)
def bornC (p : Int) : Bool := p == 3 || (decide (8 ≤ p) && decide (p ≤ 11))
def placeZ33 : CPlace := ⟨[], 0, 0, []⟩
def ClD.at_ (c : ClD) (i : Int) : CPlace := c.ps.getD i.toNat placeZ33
def ClD.put_ (c : ClD) (i : Int) (p : CPlace) : ClD := { c with ps := c.ps.set i.toNat p }
/-- what waits at a place is written ahead -/
def ClD.ahead (c : ClD) (i : Int) : ClD × List CPart :=
  if (c.at_ i).bytes = [] then (c, [])
  else (c.put_ i { c.at_ i with at_ := 0, bytes := [] }, [⟨{ callZ with proc := 7, offset := (c.at_ i).at_, data := (c.at_ i).bytes, how := 2 }, i, 0, -1, 0, 0⟩])
/-- bytes wait at a place -/
def ClD.late (c : ClD) (i : Int) (x : Call) : ClD × List CPart :=
  if x.data = [] then (c, [])
  else if (c.at_ i).bytes ≠ [] ∧ x.offset - (c.at_ i).at_ = (c.at_ i).bytes.length ∧ (c.at_ i).bytes.length + x.data.length ≤ 256 then (c.put_ i { c.at_ i with bytes := (c.at_ i).bytes ++ x.data }, [])
  else ((c.ahead i).1.put_ i { c.at_ i with at_ := x.offset, bytes := x.data }, (c.ahead i).2)
/-- the call that is asked for, the places that it uses, and whether there is such a kind -/
def askedC (a : Ask) : Call × List Int × Bool :=
  if a.kind = 1 then ({ callZ with proc := 3, name := a.call.name }, [a.dir, a.var], true)
  else if a.kind = 2 then ({ callZ with proc := 6, offset := a.call.offset, count := a.call.count }, [a.var], true)
  else if a.kind = 3 then ({ callZ with proc := 7, offset := a.call.offset, data := a.call.data, how := 2 }, [a.var], true)
  else if a.kind = 4 then ({ callZ with proc := 21 }, [a.var], true)
  else if a.kind = 5 then ({ a.call with fh := [], fh2 := [] }, [a.dir, a.to_, a.var], true)
  else (callZ, [], false)
/-- the calls that are to be made -/
def ClD.plan (c : ClD) (a : Ask) (x : Call) : ClD × List CPart :=
  if a.kind = 1 then ((c.ahead a.var).1, (c.ahead a.var).2 ++ [⟨{ callZ with proc := 1 }, a.dir, 0, -1, 0, 0⟩, ⟨x, a.dir, 0, a.var, 0, 0⟩, ⟨{ callZ with proc := 1 }, a.var, 0, -1, 0, 0⟩])
  else if a.kind = 3 then c.late a.var x
  else if a.kind = 5 then
    if bornC x.proc then ((c.ahead a.var).1, (c.ahead a.var).2 ++ [⟨x, a.dir, a.to_, a.var, 0, 0⟩]) else (c, [⟨x, a.dir, a.to_, -1, 0, 0⟩])
  else ((c.ahead a.var).1, (c.ahead a.var).2 ++ [⟨x, a.var, 0, -1, 0, 0⟩])
def hasC (p : Int) (b : UInt8) : Bool := (cFields p).contains b
/-- the call as it is sent: with the handles of its places -/
def ClD.sends (c : ClD) (p : CPart) : Call :=
  let x := if hasC p.c.proc 102 then { p.c with fh := (c.at_ p.dir).handle } else p.c
  if hasC p.c.proc 70 then { x with fh2 := (c.at_ p.to_).handle } else x
/-- the call as it is recorded: with Gens in the place of handles -/
def ClD.tells (c : ClD) (p : CPart) : Call :=
  let x := if hasC p.c.proc 102 then { p.c with fh := genText (c.at_ p.dir).gen } else p.c
  if hasC p.c.proc 70 then { x with fh2 := genText (c.at_ p.to_).gen } else x
def ClD.cred (c : ClD) (p : CPart) : Cred := ⟨c.id, c.made + 1, p.uid, p.gid⟩
def ClD.message (c : ClD) (p : CPart) : Message := ⟨c.made + 1, false, false, p.c.proc, c.cred p, 0, (cPut (c.sends p)).1⟩
def putBytes (m : Message) : List UInt8 := if m.bad then [] else m.bytes
def ClD.packet (c : ClD) (p : CPart) : Packet := ⟨c.self, c.server, putBytes (c.message p)⟩
def repD0 : RepD := ⟨fldsZ, [], []⟩
/-- the next call is made -/
def ClD.next (c : ClD) (step now : Int) : ClD × List Packet :=
  match c.parts with
  | [] => (c, [])
  | p :: l => ({ c with parts := l, now := p, busy := true, sent := c.packet p, due := now + 8, made := c.made + 1, recs := c.recs ++ [⟨c.cred p, step, 0, c.tells p, repD0⟩] }, [c.packet p])
def whoC (a : Ask) : Bool := decide (0 ≤ a.uid) && decide (a.uid ≤ 4294967295) && (decide (0 ≤ a.gid) && decide (a.gid ≤ 4294967295))
def mayAsk (a : Ask) (step now : Int) : Bool :=
  (askedC a).2.2 && decide (1 ≤ step) && timedC now && (askedC a).2.1.all placeC && whoC a && decide (cCheck (askedC a).1 = 0)
/-- a client is asked -/
def ClD.ask (c : ClD) (a : Ask) (step now : Int) : ClD × List Packet × Int :=
  if c.busy then (c, [], 34)
  else if mayAsk a step now = false then (c, [], 2)
  else
    let q := c.plan a (askedC a).1
    let r := ({ q.1 with parts := q.2.map fun p => { p with uid := a.uid, gid := a.gid } } : ClD).next step now
    (r.1, r.2, 0)
/-- results, with Gens in the place of handles -/
def toldC (d : RepD) : RepD :=
  ⟨if d.f.fh = [] then d.f else { d.f with fh := genText d.f.obj.attr.gen }, d.es.map fun e => if e.fh = [] then e else { e with fh := genText e.gen }, d.us⟩
def lastSet (l : List RecdD) (step : Int) (d : RepD) : List RecdD :=
  match l.getLast? with
  | none => l
  | some r => l.dropLast ++ [{ r with fin := step, rep := d }]
/-- something comes -/
def ClD.take (c : ClD) (x : Packet) (step now : Int) : ClD × List Packet :=
  if c.busy = false ∨ x.from_ ≠ c.server ∨ step < 1 ∨ timedC now = false then (c, [])
  else if (getM9 x.data).2 ≠ 0 ∨ (getM9 x.data).1.answer = false ∨ (getM9 x.data).1.xid ≠ c.made ∨ (getM9 x.data).1.accept ≠ 0 then (c, [])
  else match pGet c.now.c.proc (getM9 x.data).1.body with
    | none => (c, [])
    | some d =>
      let c1 := { c with recs := lastSet c.recs step (toldC d), busy := false }
      if d.f.status ≠ 0 then ({ c1 with parts := [] }, [])
      else if c.now.put ≠ -1 ∧ d.f.fh ≠ [] ∧ d.f.obj.is = true then (c1.put_ c.now.put { c.at_ c.now.put with handle := d.f.fh, gen := d.f.obj.attr.gen }).next step now
      else c1.next step now
def partZ33 : CPart := ⟨callZ, 0, 0, 0, 0, 0⟩
def packetZ33 : Packet := ⟨0, 0, []⟩
/-- a client that was made: its places hold the root's handle -/
def clNew (id self server : Int) (root : List UInt8) : ClD := ⟨id, self, server, List.replicate 4 ⟨root, 1, 0, []⟩, [], partZ33, false, packetZ33, 0, 0, []⟩
end Go.Proofs.YtfjflkmhhbhceaaGreatDoor

/-
  Layer 33: a client in memory: its block, its calls that are to be made, its records; what is kept when other blocks change. No condition.
-/
namespace Go.Proofs.YtfjflkmhhbhceaaGreatDoor
open Go.RowKit

/-- the block of a slice, if there is one, is one of F -/
def InF (F : Nat → Prop) (v : Value) : Prop := ∀ k, v.ownBlock = some k → F k
/-- a block of cells of one of these types -/
def TyIn (w : World) (ts : List TypeId) (k : Nat) : Prop := ∃ C t fr, w.heap[k]? = some (.cells C t fr) ∧ t ∈ ts
theorem InF.mono {F G : Nat → Prop} {v : Value} (h : InF F v) (hG : ∀ k, F k → G k) : InF G v := fun k hk => hG k (h k hk)
theorem own_ty {w : World} {B n sz : Nat} {e : TypeId} {v : Value} {xs : List Value} (h : w.ownsRow B e sz v n xs) : ∀ k, v.ownBlock = some k → ∃ C, w.heap[k]? = some (.cells C e (0, 0)) := by
  intro k hk
  rcases h.2 with ⟨rfl, _⟩ | ⟨g, cap, cur, rfl, _, hh, _⟩
  · cases hk
  · have : g = k := by simpa [Value.ownBlock] using hk
    subst this
    exact ⟨cur, hh⟩
theorem ty_one {w : World} {ts : List TypeId} {k : Nat} {C : Array Value} {e : TypeId} {fr : Nat × Nat} (h : w.heap[k]? = some (.cells C e fr)) (ht : TyIn w ts k) : e ∈ ts := by
  obtain ⟨D, t, fr', h2, hm⟩ := ht
  rw [h] at h2
  injection h2 with h2
  injection h2 with _ h3
  rw [h3]
  exact hm
section
variable {w w' : World} {B : Nat} {e : TypeId} {sz : Nat} {v : Value} {rows : List (List Value)} {F G : Nat → Prop}
theorem RowS.tou {ts : List TypeId} (h : RowS w B e sz v rows) (ht : Touch (TyIn w ts) w w') (he : e ∉ ts) : RowS w' B e sz v rows :=
  h.touch ht fun k hk hf => by
    obtain ⟨C, hC⟩ := own_ty h.2 k hk
    exact he (ty_one hC hf)
theorem RowS.away (h : RowS w B e sz v rows) (hi : InF F v) (ht : Touch G w w') (hd : ∀ k, F k → ¬ G k) : RowS w' B e sz v rows :=
  h.touch ht fun k hk => hd k (hi k hk)
end

/-- results as a record holds them -/
structure RepAt (w : World) (F : Nat → Prop) (z : Reply) (d : RepD) : Prop where
  bare : z.bare = d.f
  es : RowS w 0 126 15 (.slice z.ea z.en z.ec) (d.es.map Entry.vals)
  us : RowS w 0 3 1 (.slice z.ua z.un z.uc) (d.us.map int1)
  ie : InF F (.slice z.ea z.en z.ec)
  iu : InF F (.slice z.ua z.un z.uc)
  le : d.es.length ≤ 1000000
  lu : d.us.length ≤ 1000000
structure RecIs (w : World) (F : Nat → Prop) (x : Recd) (r : RecdD) : Prop where
  cred : x.cred = r.cred
  beg : x.begin_ = r.beg
  fin : x.end_ = r.fin
  call : x.call = r.call
  rep : RepAt w F x.reply r.rep
/-- a row of records -/
structure RecsAt (w : World) (F : Nat → Prop) (v : Value) (l : List Recd) (rs : List RecdD) : Prop where
  row : RowS w 0 65 88 v (l.map Recd.vals)
  own : InF F v
  len : l.length = rs.length
  each : ∀ (i : Nat) (h : i < l.length) (h' : i < rs.length), RecIs w F l[i] rs[i]
/-- calls that are to be made -/
structure PartsAt (w : World) (F : Nat → Prop) (A : Option Addr) (n cap : Nat) (l : List CPart) : Prop where
  len : n = l.length
  fit : n ≤ cap
  row : At w 29 A (l.map CPart.vals)
  own : ∀ p, A = some p → F p.block ∧ ∃ C, w.heap[p.block]? = some (.cells C 91 (0, 0))
structure ClZ (c : ClD) (z : Clnt) : Prop where
  id : z.id = c.id
  self : z.self = c.self
  server : z.server = c.server
  ps : c.ps = [z.p0, z.p1, z.p2, z.p3]
  now : z.now = c.now
  busy : z.busy = c.busy
  sent : z.sent = c.sent
  due : z.due = c.due
  made : z.made = c.made
/-- a client at g, that owns the blocks of F -/
structure ClAt (F : Nat → Prop) (w : World) (g : Nat) (c : ClD) (z : Clnt) (l : List Recd) : Prop where
  blk : Blk w g 93 z.vals
  is : ClZ c z
  pts : PartsAt w F z.ta z.tn z.tc c.parts
  rcs : RecsAt w F (.slice z.ra z.rn z.rc) l c.recs
  fg : F g
  lt : ∀ k, F k → k < w.heap.size
def own33 : List TypeId := [93, 91, 65]

section
variable {w w' : World} {F G : Nat → Prop}
theorem RepAt.tou {z : Reply} {d : RepD} (h : RepAt w F z d) (ht : Touch (TyIn w own33) w w') : RepAt w' F z d :=
  ⟨h.bare, h.es.tou ht (by decide), h.us.tou ht (by decide), h.ie, h.iu, h.le, h.lu⟩
theorem RepAt.away {z : Reply} {d : RepD} (h : RepAt w F z d) (ht : Touch G w w') (hd : ∀ k, F k → ¬ G k) : RepAt w' F z d :=
  ⟨h.bare, h.es.away h.ie ht hd, h.us.away h.iu ht hd, h.ie, h.iu, h.le, h.lu⟩
theorem RepAt.mono {z : Reply} {d : RepD} (h : RepAt w F z d) (hG : ∀ k, F k → G k) : RepAt w G z d :=
  ⟨h.bare, h.es, h.us, h.ie.mono hG, h.iu.mono hG, h.le, h.lu⟩
theorem RepAt.there {z : Reply} {d : RepD} (h : RepAt w F z d) : (RepL.mk z d.es d.us).There w := by
  obtain ⟨A, c, hv, hA⟩ := h.es.at_
  obtain ⟨A', c', hv', hA'⟩ := h.us.at_
  injection hv with h1 h2 h3
  injection hv' with h1' h2' h3'
  subst h1 h1'
  have := h.le
  have := h.lu
  exact ⟨by simpa using h2, by simpa using h2', by show d.es.length ≤ _; omega, by show d.us.length ≤ _; omega, hA, hA'⟩
theorem RecIs.tou {x : Recd} {r : RecdD} (h : RecIs w F x r) (ht : Touch (TyIn w own33) w w') : RecIs w' F x r := ⟨h.cred, h.beg, h.fin, h.call, h.rep.tou ht⟩
theorem RecIs.away {x : Recd} {r : RecdD} (h : RecIs w F x r) (ht : Touch G w w') (hd : ∀ k, F k → ¬ G k) : RecIs w' F x r := ⟨h.cred, h.beg, h.fin, h.call, h.rep.away ht hd⟩
theorem RecIs.mono {x : Recd} {r : RecdD} (h : RecIs w F x r) (hG : ∀ k, F k → G k) : RecIs w G x r := ⟨h.cred, h.beg, h.fin, h.call, h.rep.mono hG⟩
theorem tyIn_less {ts us : List TypeId} (h : ∀ t ∈ ts, t ∈ us) : ∀ k, TyIn w ts k → TyIn w us k := fun _ ⟨C, t, fr, hh, hm⟩ => ⟨C, t, fr, hh, h t hm⟩
theorem Touch.less {ts us : List TypeId} (ht : Touch (TyIn w ts) w w') (h : ∀ t ∈ ts, t ∈ us) : Touch (TyIn w us) w w' := ht.mono fun k _ => tyIn_less h k
theorem RecsAt.tou {v : Value} {l : List Recd} {rs : List RecdD} (h : RecsAt w F v l rs) (ht : Touch (TyIn w [93, 91]) w w') : RecsAt w' F v l rs :=
  ⟨h.row.tou ht (by decide), h.own, h.len, fun i h1 h2 => (h.each i h1 h2).tou (ht.less (by decide))⟩
theorem RecsAt.away {v : Value} {l : List Recd} {rs : List RecdD} (h : RecsAt w F v l rs) (ht : Touch G w w') (hd : ∀ k, F k → ¬ G k) : RecsAt w' F v l rs :=
  ⟨h.row.away h.own ht hd, h.own, h.len, fun i h1 h2 => (h.each i h1 h2).away ht hd⟩
theorem RecsAt.mono {v : Value} {l : List Recd} {rs : List RecdD} (h : RecsAt w F v l rs) (hG : ∀ k, F k → G k) : RecsAt w G v l rs :=
  ⟨h.row, h.own.mono hG, h.len, fun i h1 h2 => (h.each i h1 h2).mono hG⟩
theorem PartsAt.lt {A : Option Addr} {n cap : Nat} {l : List CPart} (h : PartsAt w F A n cap l) {p : Addr} (hp : A = some p) : p.block < w.heap.size := by
  obtain ⟨-, C, hC⟩ := h.own p hp
  rcases Nat.lt_or_ge p.block w.heap.size with hlt | hge
  · exact hlt
  · rw [Array.getElem?_eq_none hge] at hC; cases hC
theorem PartsAt.touch {A : Option Addr} {n cap : Nat} {l : List CPart} (h : PartsAt w F A n cap l) (ht : Touch G w w') (hd : ∀ p, A = some p → ¬ G p.block) : PartsAt w' F A n cap l :=
  ⟨h.len, h.fit, h.row.touch ht (fun b off hA => hd _ hA), fun p hp => by
    obtain ⟨h1, C, hC⟩ := h.own p hp
    exact ⟨h1, C, (ht.block p.block (h.lt hp) (hd p hp)).trans hC⟩⟩
theorem PartsAt.tou {A : Option Addr} {n cap : Nat} {l : List CPart} (h : PartsAt w F A n cap l) (ht : Touch (TyIn w [93, 65]) w w') : PartsAt w' F A n cap l :=
  h.touch ht fun p hp hf => by
    obtain ⟨-, C, hC⟩ := h.own p hp
    exact absurd (ty_one hC hf) (by decide)
theorem PartsAt.away {A : Option Addr} {n cap : Nat} {l : List CPart} (h : PartsAt w F A n cap l) (ht : Touch G w w') (hd : ∀ k, F k → ¬ G k) : PartsAt w' F A n cap l :=
  h.touch ht fun p hp => hd _ (h.own p hp).1
theorem PartsAt.mono {A : Option Addr} {n cap : Nat} {l : List CPart} (h : PartsAt w F A n cap l) (hG : ∀ k, F k → G k) : PartsAt w G A n cap l :=
  ⟨h.len, h.fit, h.row, fun p hp => ⟨hG _ (h.own p hp).1, (h.own p hp).2⟩⟩
theorem PartsAt.none_ (n c : Nat) (h : n = 0) : PartsAt w F none n c [] := ⟨h, by omega, At.nil, fun p hp => by cases hp⟩
theorem ClAt.away {g : Nat} {c : ClD} {z : Clnt} {l : List Recd} (h : ClAt F w g c z l) (ht : Touch G w w') (hd : ∀ k, F k → ¬ G k) : ClAt F w' g c z l :=
  ⟨h.blk.touch ht (hd g h.fg), h.is, h.pts.away ht hd, h.rcs.away ht hd, h.fg, fun k hk => Nat.lt_of_lt_of_le (h.lt k hk) ht.size⟩
theorem ClAt.below {g : Nat} {c : ClD} {z : Clnt} {l : List Recd} (h : ClAt F w g c z l) (hb : Below w.heap.size w w') : ClAt F w' g c z l :=
  h.away (Touch.of_below hb (fun _ => False)) fun _ _ hf => hf
theorem ClAt.mono {g : Nat} {c : ClD} {z : Clnt} {l : List Recd} (h : ClAt F w g c z l) (hG : ∀ k, F k → G k) (hl : ∀ k, G k → k < w.heap.size) : ClAt G w g c z l :=
  ⟨h.blk, h.is, h.pts.mono hG, h.rcs.mono hG, hG g h.fg, hl⟩
theorem tyIn_of {g : Nat} {t : TypeId} {cs : List Value} {ts : List TypeId} (h : Blk w g t cs) (ht : t ∈ ts) : TyIn w ts g := ⟨_, _, _, h, ht⟩
/-- the client's own block alone has changed -/
theorem ClAt.own {g : Nat} {c c' : ClD} {z z' : Clnt} {l : List Recd} (h : ClAt F w g c z l) (ht : Touch (fun k => k = g) w w') (hB : Blk w' g 93 z'.vals) (hz : ClZ c' z')
    (h1 : z'.ta = z.ta) (h2 : z'.tn = z.tn) (h2c : z'.tc = z.tc) (h3 : c'.parts = c.parts) (h4 : z'.ra = z.ra) (h5 : z'.rn = z.rn) (h6 : z'.rc = z.rc) (h7 : c'.recs = c.recs) : ClAt F w' g c' z' l := by
  have hty : Touch (TyIn w [93]) w w' := ht.mono fun k _ hk => by subst hk; exact tyIn_of h.blk (by decide)
  refine ⟨hB, hz, ?_, ?_, h.fg, fun k hk => Nat.lt_of_lt_of_le (h.lt k hk) ht.size⟩
  · rw [h1, h2, h2c, h3]
    exact h.pts.tou (hty.less (by decide))
  · rw [h4, h5, h6, h7]
    exact h.rcs.tou (hty.less (by decide))
end
end Go.Proofs.YtfjflkmhhbhceaaGreatDoor


/-
  Layer 33, plain: the numbers of a client and of results that were taken lie within their bounds. Condition: texts of Go's length.
-/
namespace Go.Proofs.YtfjflkmhhbhceaaGreatDoor
open Go.RowKit

structure RepSmall (d : RepD) : Prop where
  le : d.es.length ≤ 64
  lu : d.us.length ≤ 16
  obj : d.f.obj.attr.gen ≤ 9223372036854775807
  gens : ∀ x ∈ d.es, x.gen ≤ 9223372036854775807
theorem numsK_length (r : Rs) : ∀ k, (numsK r k).1.length = k
  | 0 => rfl
  | k + 1 => by rw [numsK, List.length_append, numsK_length r k]; rfl
theorem entsK_length (b : Bool) (r : Rs) : ∀ k, (entsK b r k).1.length = k
  | 0 => rfl
  | k + 1 => by rw [entsK, List.length_append, entsK_length b r k]; rfl
theorem oneE_gen (b : Bool) (r : Rs) : (oneE b r).1.gen ≤ 9223372036854775807 := by
  unfold oneE
  split <;> exact rU64_lt r
theorem entsK_gens (b : Bool) (r : Rs) : ∀ k, ∀ x ∈ (entsK b r k).1, x.gen ≤ 9223372036854775807
  | 0, x, h => by cases h
  | k + 1, x, h => by
    rw [entsK] at h
    rcases List.mem_append.1 h with h | h
    · exact entsK_gens b r k x h
    · rw [List.mem_singleton] at h
      subst h
      exact oneE_gen b _
theorem wf_le {n : Int} (h : (Lit.int .i64 n).wf = true) : n ≤ 9223372036854775807 := by
  unfold Lit.wf at h
  simp only [Bool.and_eq_true, decide_eq_true_eq] at h
  exact h.2
theorem gotR_gen {r : Rs} (h : r.s.length ≤ 9223372036854775807) : (gotR Post.ok postZ (rPost r)).1.attr.gen ≤ 9223372036854775807 := by
  have hg : (rPost r).1.attr.gen ≤ 9223372036854775807 := wf_le (rPost_good h).2.2.2.2.2.2.2.1
  unfold gotR
  split
  · show (0 : Int) ≤ _; decide
  · split
    · exact hg
    · show (0 : Int) ≤ _; decide
theorem pTk_small {c : Nat} {d : RepD} {r : Rs} (hk : pTkOk c r = true) (hr : r.s.length ≤ 9223372036854775807) (h : RepSmall d) : RepSmall (pTk c d r).1 := by
  by_cases h1 : c = 97
  · subst h1
    exact ⟨h.le, h.lu, gotR_gen hr, h.gens⟩
  by_cases h2 : c = 110
  · subst h2
    have hk2 : (decide ((rU32 r).1 ≤ 16) && ((numsK (rU32 r).2 (rU32 r).1).2.e == 0)) = true := hk
    simp only [Bool.and_eq_true, decide_eq_true_eq] at hk2
    exact ⟨h.le, (numsK_length _ _).symm ▸ hk2.1, h.obj, h.gens⟩
  by_cases h3 : c = 108
  · subst h3
    have hk2 : (decide ((rU32 r).1 ≤ 64) && (((rU32 r).2.e == 0) && (List.range (rU32 r).1).all fun i => oneOk false (entsK false (rU32 r).2 i).2)) = true := hk
    rw [Bool.and_eq_true, decide_eq_true_eq] at hk2
    exact ⟨(entsK_length _ _ _).symm ▸ hk2.1, h.lu, h.obj, entsK_gens _ _ _⟩
  by_cases h4 : c = 112
  · subst h4
    have hk2 : (decide ((rU32 r).1 ≤ 64) && (((rU32 r).2.e == 0) && (List.range (rU32 r).1).all fun i => oneOk true (entsK true (rU32 r).2 i).2)) = true := hk
    rw [Bool.and_eq_true, decide_eq_true_eq] at hk2
    exact ⟨(entsK_length _ _ _).symm ▸ hk2.1, h.lu, h.obj, entsK_gens _ _ _⟩
  have he : (pTk c d r).1.es = d.es ∧ (pTk c d r).1.us = d.us ∧ (pTk c d r).1.f.obj = d.f.obj := by
    rcases Decidable.em (c = 104) with rfl | q1
    · exact ⟨rfl, rfl, rfl⟩
    rcases Decidable.em (c = 68) with rfl | q2
    · exact ⟨rfl, rfl, rfl⟩
    rcases Decidable.em (c = 119) with rfl | q3
    · exact ⟨rfl, rfl, rfl⟩
    rcases Decidable.em (c = 87) with rfl | q4
    · exact ⟨rfl, rfl, rfl⟩
    rcases Decidable.em (c = 120) with rfl | q5
    · exact ⟨rfl, rfl, rfl⟩
    rcases Decidable.em (c = 99) with rfl | q6
    · exact ⟨rfl, rfl, rfl⟩
    rcases Decidable.em (c = 115) with rfl | q7
    · exact ⟨rfl, rfl, rfl⟩
    rcases Decidable.em (c = 118) with rfl | q8
    · exact ⟨rfl, rfl, rfl⟩
    rcases Decidable.em (c = 101) with rfl | q9
    · exact ⟨rfl, rfl, rfl⟩
    rcases Decidable.em (c = 100) with rfl | q10
    · exact ⟨rfl, rfl, rfl⟩
    unfold pTk
    rw [if_neg q1, if_neg h1, if_neg q2, if_neg q3, if_neg q4, if_neg q5, if_neg q6, if_neg q7, if_neg q8, if_neg q9, if_neg q10, if_neg h2, if_neg h3, if_neg h4]
    exact ⟨rfl, rfl, rfl⟩
  exact ⟨he.1 ▸ h.le, he.2.1 ▸ h.lu, he.2.2 ▸ h.obj, he.1 ▸ h.gens⟩
theorem pSt_small {l : List UInt8} {d : RepD} {r : Rs} (hr : r.s.length ≤ 9223372036854775807) (h : RepSmall d) (hok : ∀ k, k < l.length → pStOk l d r k = true) : ∀ k, k ≤ l.length → RepSmall (pSt l d r k).1
  | 0, _ => h
  | k + 1, hk => by
    rw [pSt_succ l d r k hk]
    refine pTk_small ?_ (pSt_len l d hr k (by omega)) (pSt_small hr h hok k (by omega))
    have := hok k hk
    unfold pStOk at this
    rwa [List.getD_eq_getElem?_getD, List.getElem?_eq_getElem hk] at this
theorem pGet_small {p : Int} {s : List UInt8} {d : RepD} (hs : s.length ≤ 9223372036854775807) (h : pGet p s = some d) : RepSmall d := by
  have hl4 := Nat.le_trans (rU32_len (r := ⟨s, 0⟩) hs) hs
  unfold pGet at h
  generalize rU32 ⟨s, 0⟩ = y at *
  obtain ⟨n, q⟩ := y
  simp only at *
  split at h
  · cases h
  · split at h
    · next h2 =>
      have hd := Option.some.inj h
      rw [← hd]
      exact pSt_small hl4 ⟨Nat.zero_le _, Nat.zero_le _, by show (0 : Int) ≤ _; decide, fun x hx => by cases hx⟩ h2.1 _ (Nat.le_refl _)
    · cases h

/-- what is asked of a call's numbers ahead of its being laid -/
structure CallG (x : Call) : Prop where
  offset : x.offset ≤ 9223372036854775807
  cookie : x.cookie ≤ 9223372036854775807
  verf : x.verf ≤ 9223372036854775807
  set : x.set.good
  guard : x.guard.n ≤ 9223372036854775807
theorem Call.good.g {x : Call} (h : x.good) : CallG x := by
  obtain ⟨-, -, -, -, -, h1, -, -, -, h2, h3, h4, h5, -⟩ := h
  exact ⟨wf_le h1, wf_le h4, wf_le h5, h2, wf_le h3⟩
theorem callZ_g : CallG callZ := ⟨by decide, by decide, by decide, ⟨rfl, rfl, rfl, rfl, rfl⟩, by decide⟩
structure PartG (p : CPart) : Prop where
  call : CallG p.c
  proc : 0 ≤ p.c.proc ∧ p.c.proc ≤ 21
  dir : 0 ≤ p.dir ∧ p.dir < 4
  to_ : 0 ≤ p.to_ ∧ p.to_ < 4
  put : p.put = -1 ∨ (0 ≤ p.put ∧ p.put < 4)
structure PlaceG (p : CPlace) : Prop where
  gen : p.gen ≤ 9223372036854775807
  at_ : 0 ≤ p.at_ ∧ p.at_ ≤ 9223372036854775807
  bytes : p.bytes.length ≤ 256
structure ClGood (c : ClD) : Prop where
  len : c.ps.length = 4
  ps : ∀ p ∈ c.ps, PlaceG p
  parts : ∀ p ∈ c.parts, PartG p
  now : c.busy = true → PartG c.now
  made : c.made = c.recs.length
theorem ClGood.new (id self server : Int) (root : List UInt8) : ClGood (clNew id self server root) :=
  ⟨rfl, fun p hp => by
    obtain ⟨-, rfl⟩ := List.mem_replicate.1 hp
    exact ⟨by show (1 : Int) ≤ _; decide, ⟨by show (0 : Int) ≤ 0; decide, by show (0 : Int) ≤ _; decide⟩, Nat.zero_le _⟩, fun p hp => (by cases hp), fun h => (by cases h), rfl⟩
theorem ClGood.at_ {c : ClD} (h : ClGood c) (i : Int) : PlaceG (c.at_ i) := by
  unfold ClD.at_
  rw [List.getD_eq_getElem?_getD]
  cases hi : c.ps[i.toNat]? with
  | none => exact ⟨by show (0 : Int) ≤ _; decide, ⟨by show (0 : Int) ≤ 0; decide, by show (0 : Int) ≤ _; decide⟩, Nat.zero_le _⟩
  | some p => exact h.ps p (List.mem_of_getElem? hi)
theorem ClGood.put_ {c : ClD} (h : ClGood c) (i : Int) {p : CPlace} (hp : PlaceG p) : ClGood (c.put_ i p) :=
  ⟨by show (c.ps.set _ _).length = 4; rw [List.length_set]; exact h.len, fun q hq => by
    rcases List.mem_or_eq_of_mem_set hq with hq | rfl
    · exact h.ps q hq
    · exact hp, h.parts, h.now, h.made⟩
theorem next_good {c : ClD} (h : ClGood c) (step now : Int) : ClGood (c.next step now).1 := by
  unfold ClD.next
  cases hp : c.parts with
  | nil => exact h
  | cons p l => exact ⟨h.len, h.ps, fun q hq => h.parts q (by rw [hp]; exact List.mem_cons_of_mem _ hq), fun _ => h.parts p (by rw [hp]; exact List.mem_cons_self), by
      show c.made + 1 = ((c.recs ++ [_]).length : Nat)
      rw [h.made, List.length_append]; simp⟩
theorem aheadP {c : ClD} (h : ClGood c) {i : Int} (hi : 0 ≤ i ∧ i < 4) : ClGood (c.ahead i).1 ∧ ∀ p ∈ (c.ahead i).2, PartG p := by
  unfold ClD.ahead
  split
  · exact ⟨h, fun p hp => (by cases hp)⟩
  · refine ⟨h.put_ i ⟨(h.at_ i).gen, ⟨by show (0 : Int) ≤ 0; decide, by show (0 : Int) ≤ _; decide⟩, Nat.zero_le _⟩, fun p hp => ?_⟩
    rw [List.mem_singleton] at hp
    subst hp
    exact ⟨⟨(h.at_ i).at_.2, callZ_g.cookie, callZ_g.verf, callZ_g.set, callZ_g.guard⟩, ⟨by show (0 : Int) ≤ 7; decide, by show (7 : Int) ≤ 21; decide⟩, hi, ⟨by show (0 : Int) ≤ 0; decide, by show (0 : Int) < 4; decide⟩, .inl rfl⟩
theorem cMay_write {o : Int} {t : List UInt8} (h : cCheck { callZ with proc := 7, offset := o, data := t, how := 2 } = 0) : 0 ≤ o ∧ t.length ≤ 256 := by
  unfold cCheck at h
  rw [if_neg (by show ¬ cThere 7 = false; decide)] at h
  split at h
  · next h1 =>
    have h2 : (decide (([] : List UInt8).length ≤ 64) && (decide (0 ≤ o) && ((decide ((0 : Int) ≤ 2) && decide ((2 : Int) ≤ 4294967295)) && (decide (t.length ≤ 256) && true)))) = true := h1.1
    simp only [Bool.and_eq_true, decide_eq_true_eq] at h2
    exact ⟨h2.2.1, h2.2.2.2.1⟩
  · cases h
theorem cThere_of {x : Call} (h : cCheck x = 0) : 0 ≤ x.proc ∧ x.proc ≤ 21 := by
  unfold cCheck at h
  split at h
  · cases h
  · next h1 =>
    simp only [cThere, Bool.not_eq_false, Bool.and_eq_true, decide_eq_true_eq] at h1
    exact h1
theorem askedC_g {a : Ask} (h : CallG a.call) : CallG (askedC a).1 := by
  unfold askedC
  repeat' split
  · exact ⟨callZ_g.offset, callZ_g.cookie, callZ_g.verf, callZ_g.set, callZ_g.guard⟩
  · exact ⟨h.offset, callZ_g.cookie, callZ_g.verf, callZ_g.set, callZ_g.guard⟩
  · exact ⟨h.offset, callZ_g.cookie, callZ_g.verf, callZ_g.set, callZ_g.guard⟩
  · exact ⟨callZ_g.offset, callZ_g.cookie, callZ_g.verf, callZ_g.set, callZ_g.guard⟩
  · exact ⟨h.offset, h.cookie, h.verf, h.set, h.guard⟩
  · exact ⟨callZ_g.offset, callZ_g.cookie, callZ_g.verf, callZ_g.set, callZ_g.guard⟩
theorem placeC_of {i : Int} (h : placeC i = true) : 0 ≤ i ∧ i < 4 := by simpa [placeC] using h
theorem zero4 : (0 : Int) ≤ 0 ∧ (0 : Int) < 4 := by decide
theorem planP {c : ClD} (h : ClGood c) {a : Ask} (ha : CallG a.call) {step now : Int} (hm : mayAsk a step now = true) : ClGood (c.plan a (askedC a).1).1 ∧ ∀ p ∈ (c.plan a (askedC a).1).2, PartG p := by
  have hg := askedC_g ha
  simp only [mayAsk, Bool.and_eq_true, decide_eq_true_eq] at hm
  obtain ⟨⟨⟨⟨⟨hk, -⟩, -⟩, hpl⟩, -⟩, hck⟩ := hm
  have hpr := cThere_of hck
  have g1 : PartG ⟨{ callZ with proc := 1 }, 0, 0, -1, 0, 0⟩ := ⟨callZ_g.1 |> fun h => ⟨h, callZ_g.2, callZ_g.3, callZ_g.4, callZ_g.5⟩, by show (0 : Int) ≤ 1 ∧ (1 : Int) ≤ 21; decide, zero4, zero4, .inl rfl⟩
  by_cases k1 : a.kind = 1
  · rw [show (askedC a).2.1 = [a.dir, a.var] by unfold askedC; rw [if_pos k1]] at hpl
    simp only [List.all_cons, List.all_nil, Bool.and_eq_true, Bool.and_true] at hpl
    obtain ⟨hd, hv⟩ := aheadP h (placeC_of hpl.2)
    unfold ClD.plan
    rw [if_pos k1]
    refine ⟨hd, fun p hp => ?_⟩
    rcases List.mem_append.1 hp with hp | hp
    · exact hv p hp
    · simp only [List.mem_cons, List.not_mem_nil, or_false] at hp
      rcases hp with rfl | rfl | rfl
      · exact ⟨g1.call, g1.proc, placeC_of hpl.1, zero4, .inl rfl⟩
      · exact ⟨hg, hpr, placeC_of hpl.1, zero4, .inr (placeC_of hpl.2)⟩
      · exact ⟨g1.call, g1.proc, placeC_of hpl.2, zero4, .inl rfl⟩
  by_cases k3 : a.kind = 3
  · have ea : askedC a = ({ callZ with proc := 7, offset := a.call.offset, data := a.call.data, how := 2 }, [a.var], true) := by unfold askedC; rw [if_neg k1, if_neg (by omega), if_pos k3]
    rw [ea] at hck hpl hg ⊢
    simp only [List.all_cons, List.all_nil, Bool.and_true] at hpl
    have hw := cMay_write hck
    obtain ⟨hd, hv⟩ := aheadP h (placeC_of hpl)
    have hg' := hg.offset
    simp only at hg'
    have hp2 : PlaceG { c.at_ a.var with at_ := a.call.offset, bytes := a.call.data } := ⟨(h.at_ _).gen, ⟨hw.1, hg'⟩, hw.2⟩
    unfold ClD.plan
    rw [if_neg k1, if_pos k3]
    unfold ClD.late
    split
    · exact ⟨h, fun p hp => (by cases hp)⟩
    · split
      · next hc =>
        refine ⟨h.put_ _ ⟨(h.at_ _).gen, (h.at_ _).at_, ?_⟩, fun p hp => by cases hp⟩
        show (_ ++ _ : List UInt8).length ≤ 256
        rw [List.length_append]
        exact hc.2.2
      · exact ⟨hd.put_ _ hp2, hv⟩
  by_cases k5 : a.kind = 5
  · have ea : askedC a = ({ a.call with fh := [], fh2 := [] }, [a.dir, a.to_, a.var], true) := by unfold askedC; rw [if_neg k1, if_neg (by omega), if_neg k3, if_neg (by omega), if_pos k5]
    rw [ea] at hpl hg hpr ⊢
    simp only [List.all_cons, List.all_nil, Bool.and_eq_true, Bool.and_true] at hpl
    obtain ⟨hd, hv⟩ := aheadP h (placeC_of hpl.2.2)
    unfold ClD.plan
    rw [if_neg k1, if_neg k3, if_pos k5]
    split
    · refine ⟨hd, fun p hp => ?_⟩
      rcases List.mem_append.1 hp with hp | hp
      · exact hv p hp
      · rw [List.mem_singleton] at hp
        subst hp
        exact ⟨hg, hpr, placeC_of hpl.1, placeC_of hpl.2.1, .inr (placeC_of hpl.2.2)⟩
    · refine ⟨h, fun p hp => ?_⟩
      rw [List.mem_singleton] at hp
      subst hp
      exact ⟨hg, hpr, placeC_of hpl.1, placeC_of hpl.2.1, .inl rfl⟩
  · have hvar : placeC a.var = true := by
      unfold askedC at hpl hk
      rw [if_neg k1] at hpl hk
      by_cases k2 : a.kind = 2
      · rw [if_pos k2] at hpl
        simpa using hpl
      · rw [if_neg k2, if_neg k3] at hpl hk
        by_cases k4 : a.kind = 4
        · rw [if_pos k4] at hpl
          simpa using hpl
        · rw [if_neg k4, if_neg k5] at hk
          cases hk
    obtain ⟨hd, hv⟩ := aheadP h (placeC_of hvar)
    unfold ClD.plan
    rw [if_neg k1, if_neg k3, if_neg k5]
    refine ⟨hd, fun p hp => ?_⟩
    rcases List.mem_append.1 hp with hp | hp
    · exact hv p hp
    · rw [List.mem_singleton] at hp
      subst hp
      exact ⟨hg, hpr, placeC_of hvar, zero4, .inl rfl⟩
theorem ask_good {c : ClD} (h : ClGood c) {a : Ask} (ha : CallG a.call) (step now : Int) : ClGood (c.ask a step now).1 := by
  unfold ClD.ask
  split
  · exact h
  · rename_i hb
    split
    · exact h
    · rename_i hm
      obtain ⟨h1, h2⟩ := planP h ha (by simpa using hm) (step := step) (now := now)
      refine next_good (c := { (c.plan a (askedC a).1).1 with parts := (c.plan a (askedC a).1).2.map fun p => { p with uid := a.uid, gid := a.gid } }) ⟨h1.len, h1.ps, fun p hp => ?_, h1.now, h1.made⟩ step now
      obtain ⟨q, hq, rfl⟩ := List.mem_map.1 hp
      exact ⟨(h2 q hq).call, (h2 q hq).proc, (h2 q hq).dir, (h2 q hq).to_, (h2 q hq).put⟩
theorem lastSet_length (l : List RecdD) (step : Int) (d : RepD) : (lastSet l step d).length = l.length := by
  rcases List.eq_nil_or_concat l with rfl | ⟨m, r, rfl⟩
  · rfl
  · simp [lastSet]
end Go.Proofs.YtfjflkmhhbhceaaGreatDoor


/-
  Layer 33: the places of a client, in memory, by their numbers. No condition.
-/
namespace Go.Proofs.YtfjflkmhhbhceaaGreatDoor
open Go.RowKit

def Clnt.place (z : Clnt) : Nat → CPlace
  | 0 => z.p0
  | 1 => z.p1
  | 2 => z.p2
  | _ => z.p3
def Clnt.setPlace (z : Clnt) (n : Nat) (p : CPlace) : Clnt := match n with
  | 0 => { z with p0 := p }
  | 1 => { z with p1 := p }
  | 2 => { z with p2 := p }
  | _ => { z with p3 := p }
theorem ClZ.at_ {c : ClD} {z : Clnt} (h : ClZ c z) {n : Nat} (hn : n < 4) : c.at_ (n : Int) = z.place n := by
  unfold ClD.at_
  rw [h.ps, Int.toNat_natCast]
  rcases (show n = 0 ∨ n = 1 ∨ n = 2 ∨ n = 3 by omega) with rfl | rfl | rfl | rfl
  all_goals exact rfl
theorem place_cells (z : Clnt) {n : Nat} (hn : n < 4) : z.vals[3 + n * 4]? = some (.string (bs (z.place n).handle)) ∧ z.vals[3 + n * 4 + 1]? = some (.int .i64 (z.place n).gen) ∧ z.vals[3 + n * 4 + 2]? = some (.int .i64 (z.place n).at_) ∧ z.vals[3 + n * 4 + 3]? = some (.string (bs (z.place n).bytes)) := by
  rcases (show n = 0 ∨ n = 1 ∨ n = 2 ∨ n = 3 by omega) with rfl | rfl | rfl | rfl
  all_goals exact ⟨rfl, rfl, rfl, rfl⟩
theorem ClZ.setPlace {c : ClD} {z : Clnt} (h : ClZ c z) {n : Nat} (hn : n < 4) (p : CPlace) : ClZ (c.put_ (n : Int) p) (z.setPlace n p) := by
  obtain ⟨h1, h2, h3, h4, h5, h6, h7, h8, h9⟩ := h
  rcases (show n = 0 ∨ n = 1 ∨ n = 2 ∨ n = 3 by omega) with rfl | rfl | rfl | rfl
  all_goals exact ⟨h1, h2, h3, by unfold ClD.put_; rw [h4]; rfl, h5, h6, h7, h8, h9⟩
theorem place_set_wait (z : Clnt) {n : Nat} (hn : n < 4) (a : Int) (b : List UInt8) : (z.vals.set (3 + n * 4 + 2) (.int .i64 a)).set (3 + n * 4 + 3) (.string (bs b)) = (z.setPlace n { z.place n with at_ := a, bytes := b }).vals := by
  rcases (show n = 0 ∨ n = 1 ∨ n = 2 ∨ n = 3 by omega) with rfl | rfl | rfl | rfl
  all_goals exact rfl
theorem place_set_bytes (z : Clnt) {n : Nat} (hn : n < 4) (b : List UInt8) : z.vals.set (3 + n * 4 + 3) (.string (bs b)) = (z.setPlace n { z.place n with bytes := b }).vals := by
  rcases (show n = 0 ∨ n = 1 ∨ n = 2 ∨ n = 3 by omega) with rfl | rfl | rfl | rfl
  all_goals exact rfl
theorem place_set_handle (z : Clnt) {n : Nat} (hn : n < 4) (h : List UInt8) (k : Int) : (z.vals.set (3 + n * 4) (.string (bs h))).set (3 + n * 4 + 1) (.int .i64 k) = (z.setPlace n { z.place n with handle := h, gen := k }).vals := by
  rcases (show n = 0 ∨ n = 1 ∨ n = 2 ∨ n = 3 by omega) with rfl | rfl | rfl | rfl
  all_goals exact rfl
theorem setPlace_keeps (z : Clnt) {n : Nat} (hn : n < 4) (p : CPlace) : (z.setPlace n p).ta = z.ta ∧ (z.setPlace n p).tn = z.tn ∧ (z.setPlace n p).tc = z.tc ∧ (z.setPlace n p).ra = z.ra ∧ (z.setPlace n p).rn = z.rn ∧ (z.setPlace n p).rc = z.rc := by
  rcases (show n = 0 ∨ n = 1 ∨ n = 2 ∨ n = 3 by omega) with rfl | rfl | rfl | rfl
  all_goals exact ⟨rfl, rfl, rfl, rfl, rfl, rfl⟩
end Go.Proofs.YtfjflkmhhbhceaaGreatDoor


/-
  Layer 33, walks: a time, places, procedures that tell a handle, a procedure's letters. Conditions: lengths.
-/
namespace Go.Proofs.YtfjflkmhhbhceaaGreatDoor
open Go.RowKit

theorem timed33_any (n : Int) (w : World) : Calls Tryz.prog 34 #[.int .i64 n] w fun e w' => e = .returned (.bool (timedC n)) ∧ w' = w := by
  go_enter Tryz.func34, Tryz.ntmps34
  go_wp2
  all_goals (go_ret; go_light; exact ⟨ret_bool (by unfold timedC; grind), rfl⟩)
theorem born33_any (n : Int) (w : World) : Calls Tryz.prog 83 #[.int .i64 n] w fun e w' => e = .returned (.bool (bornC n)) ∧ w' = w := by
  go_enter Tryz.func83, Tryz.ntmps83
  go_wp2
  all_goals (go_ret; go_light; exact ⟨ret_bool (by unfold bornC; grind), rfl⟩)
theorem thereOne_any (n : Int) (w : World) : Calls Tryz.prog 75 #[.int .i64 n] w fun e w' => e = .returned (.bool (!placeC n)) ∧ w' = w := by
  go_enter Tryz.func75, Tryz.ntmps75
  go_wp2
  all_goals (go_ret; go_light; exact ⟨ret_bool (by unfold placeC; grind), rfl⟩)
theorem all_next {p : Int → Bool} {l : List Int} {k : Nat} (hk : k < l.length) (h : (l.take k).all p = true) (hp : p l[k] = true) : (l.take (k + 1)).all p = true := by
  rw [List.take_add_one, List.getElem?_eq_getElem hk, List.all_append, h]
  simp [hp]
theorem all_stop {p : Int → Bool} {l : List Int} {k : Nat} (hk : k < l.length) (hp : p l[k] = false) : l.all p = false := by
  rw [List.all_eq_false]
  exact ⟨_, List.getElem_mem hk, by simp [hp]⟩
set_option maxHeartbeats 800000 in
theorem thereIdx_any (A : Option Addr) (c : Nat) (l : List Int) (w : World) (hl : l.length ≤ 1000) (hA : At w 1 A (l.map int1)) :
    Calls Tryz.prog 118 #[.slice A l.length c, .func (.func 75) #[] #[]] w fun e w' => (∃ r : Int, e = .returned (.int .i64 r) ∧ decide (0 ≤ r) = !(l.all placeC)) ∧ w' = w := by
  have hcf : ∀ args W, (callFunc 75 args).run Tryz.prog W = .ok (.enter 75 args) W := fun args W => by kernel_rfl
  go_enter Tryz.func118, Tryz.ntmps118
  go_wp2
  go_loopw [8] (fun i wr => ∃ k : Nat, k ≤ l.length ∧ i = .int .i64 k ∧ (l.take k).all placeC = true ∧ wr = w) (fun i _ => l.length - (intOf i).toNat)
  case atStart => exact ⟨0, Nat.zero_le _, rfl, rfl, rfl⟩
  case round =>
    obtain ⟨k, hk, rfl, hn, rfl⟩ := hrel
    have HN := Lib.hid hn
    clear hn
    by_cases hlt : k < l.length
    · obtain ⟨b1, o1, rfl, hb1, -, c1⟩ := rowCell8 (vals := int1) (sz := 1) (fun _ => rfl) (by omega) hA hlt
      have c1 := c1 0 (.int .i64 l[k]) rfl
      rw [Nat.add_zero, Nat.mul_one] at c1
      have hk0 : (0 : Int) ≤ (k : Int) := Int.natCast_nonneg _
      have hk1 : (k : Int) < (l.length : Int) := by omega
      by_cases hp : placeC l[k] = true
      · have HS := Lib.hid (all_next hlt HN.out hp)
        clear HN hA
        generalize l[k] = x at *
        go_wp2_with fail
        refine (thereOne_any x _).mono ?_
        rintro e w1 ⟨rfl, rfl⟩
        rw [hp]
        clear hp
        go_wp2
        go_roundw
        case rel => exact ⟨k + 1, by omega, by go_num, HS.out, by first | rfl | trivial⟩
        case measure => simp [intOf]; omega
      · rw [Bool.not_eq_true] at hp
        have HS := Lib.hid (all_stop hlt hp)
        clear HN hA
        generalize l[k] = x at *
        go_wp2_with fail
        refine (thereOne_any x _).mono ?_
        rintro e w1 ⟨rfl, rfl⟩
        rw [hp]
        clear hp
        go_wp2
        go_ret
        exact ⟨⟨_, rfl, by rw [HS.out]; simp⟩, rfl⟩
    · have HS := Lib.hid (show l.all placeC = true by have := HN.out; rwa [List.take_of_length_le (by omega)] at this)
      clear HN hA
      go_wp2
      go_ret
      exact ⟨⟨_, rfl, by rw [HS.out]; rfl⟩, rfl⟩
theorem there33_any (A : Option Addr) (c : Nat) (l : List Int) (w : World) (hl : l.length ≤ 1000) (hA : At w 1 A (l.map int1)) :
    Calls Tryz.prog 35 #[.slice A l.length c] w fun e w' => e = .returned (.bool (l.all placeC)) ∧ w' = w := by
  have K : Calls Tryz.prog 74 #[.slice A l.length c, .func (.func 75) #[] #[]] w fun e w' => e = .returned (.bool (!(l.all placeC))) ∧ w' = w := by
    go_enter Tryz.func74, Tryz.ntmps74
    go_wp2_with fail
    refine (thereIdx_any A c l w hl hA).mono ?_
    rintro e w1 ⟨⟨r, rfl, hr⟩, rfl⟩
    have HR := Lib.hid hr
    clear hr
    go_wp2
    go_ret
    exact ⟨ret_bool (by rw [← HR.out]), rfl⟩
  have K := Lib.hid K
  go_enter Tryz.func35, Tryz.ntmps35
  go_wp2_with fail
  refine K.out.mono ?_
  rintro e w1 ⟨rfl, rfl⟩
  go_wp2
  go_ret
  exact ⟨ret_bool (by simp), rfl⟩
end Go.Proofs.YtfjflkmhhbhceaaGreatDoor


/-
  Layer 33, plain: results whose entries are told one behind the other. No condition.
-/
namespace Go.Proofs.YtfjflkmhhbhceaaGreatDoor
open Go.RowKit
def toldE (x : Entry) : Entry := if x.fh = [] then x else { x with fh := genText x.gen }
def toldN (k : Nat) (l : List Entry) : List Entry := (l.take k).map toldE ++ l.drop k
theorem toldN_zero (l : List Entry) : toldN 0 l = l := by simp [toldN]
theorem toldN_all (l : List Entry) : toldN l.length l = l.map toldE := by simp [toldN]
theorem toldN_len (k : Nat) (l : List Entry) : (toldN k l).length = l.length := by
  simp only [toldN, List.length_append, List.length_map, List.length_take, List.length_drop]
  omega
theorem toldN_here {k : Nat} {l : List Entry} (h : k < l.length) : toldN k l = (l.take k).map toldE ++ l[k] :: l.drop (k + 1) := by
  rw [← List.drop_eq_getElem_cons h]
  rfl
theorem toldN_next {k : Nat} {l : List Entry} (h : k < l.length) : toldN (k + 1) l = (l.take k).map toldE ++ toldE l[k] :: l.drop (k + 1) := by
  unfold toldN
  rw [← List.take_append_getElem h, List.map_append, List.append_assoc]
  rfl
theorem toldE_no {x : Entry} (h : x.fh = []) : toldE x = x := if_pos h
theorem toldE_yes {x : Entry} (h : x.fh ≠ []) : toldE x = { x with fh := genText x.gen } := if_neg h
end Go.Proofs.YtfjflkmhhbhceaaGreatDoor


/-
  Layer 33, walks: has a procedure a letter. No condition.
-/
namespace Go.Proofs.YtfjflkmhhbhceaaGreatDoor
open Go.RowKit

def rune1 (b : UInt8) : List Value := [.int .i32 b.toNat]
theorem runes_are (p : Int) : Conv.runesFrom (bs (cFields p)) (bs (cFields p)).size 0 #[] = ((cFields p).map fun b => Value.int .i32 b.toNat).toArray := by
  rcases cFields_cases p with hlo | hhi | rfl | rfl | rfl | rfl | rfl | rfl | rfl | rfl | rfl | rfl | rfl | rfl | rfl | rfl | rfl | rfl | rfl | rfl | rfl | rfl | rfl | rfl
  · rw [cFields_low hlo]; kernel_rfl
  · rw [cFields_high hhi]; kernel_rfl
  all_goals kernel_rfl
theorem runes33 (p : Int) (W : World) : ∃ b c V, (convert 9 192 (.string (bs (cFields p)))).run Tryz.prog W = .ok (.slice (some ⟨b, 0, none⟩) (cFields p).length c) V ∧ At V 1 (some ⟨b, 0, none⟩) ((cFields p).map rune1) ∧ Below W.heap.size W V := by
  have hr := runes_are p
  have hlen : (cFields p).length ≤ 100 := by
    rcases cFields_cases p with hlo | hhi | rfl | rfl | rfl | rfl | rfl | rfl | rfl | rfl | rfl | rfl | rfl | rfl | rfl | rfl | rfl | rfl | rfl | rfl | rfl | rfl | rfl | rfl
    · rw [cFields_low hlo]; decide
    · rw [cFields_high hhi]; decide
    all_goals decide
  generalize cFields p = l at *
  have h := run_runes_of_string (P := Tryz.prog) W 9 192 21 (bs l) Tryz.underlying9 Tryz.underlying192 Tryz.underlying21 (by rw [hr]; simp; omega)
  rw [hr] at h
  simp only [List.size_toArray, List.length_map] at h
  refine ⟨_, _, _, h, ?_, (Below.refl _ _).drew.alloc (Nat.le_refl _) _⟩
  intro i r hi
  rw [List.getElem?_map] at hi
  cases hli : l[i]? with
  | none => rw [hli] at hi; cases hi
  | some x =>
    rw [hli] at hi
    have hi2 : rune1 x = r := Option.some.inj hi
    subst hi2
    refine ⟨_, _, rfl, by simp, fun j u hj => ?_⟩
    have hj0 : j = 0 := by
      cases j with
      | zero => rfl
      | succ j => cases hj
    subst hj0
    have hu : Value.int .i32 x.toNat = u := Option.some.inj hj
    subst hu
    have hlt := (List.getElem?_eq_some_iff.1 hli).1
    have hdr : W.heap.size = W.drew.heap.size := rfl
    rw [show (⟨W.heap.size, 0 + i * 1 + 0, none⟩ : Addr) = ⟨W.drew.heap.size, i, none⟩ by rw [← hdr]; simp]
    rw [World.cell?_alloc_at _ _ _ _ rfl]
    rw [Array.getElem?_append_left (by simpa using hlt)]
    simp [hli]
theorem index_next {b : UInt8} {l : List UInt8} {k : Nat} (hk : k < l.length) (h : (l.take k).contains b = false) (hp : l[k] ≠ b) : (l.take (k + 1)).contains b = false := by
  rw [List.take_add_one, List.getElem?_eq_getElem hk]
  simp only [List.contains_eq_mem, decide_eq_false_iff_not, List.mem_append] at h ⊢
  simp only [Option.toList_some, List.mem_singleton]
  rintro (h2 | h2)
  · exact h h2
  · exact hp h2.symm
def inU (l : List UInt8) (b : UInt8) : Bool := l.contains b
set_option maxHeartbeats 800000 in
theorem index33_any (b : Nat) (hb : b < 256) (A : Option Addr) (c : Nat) (l : List UInt8) (w : World) (hl : l.length ≤ 1000) (hA : At w 1 A (l.map rune1)) :
    Calls Tryz.prog 158 #[.slice A l.length c, .int .i32 b] w fun e w' => (∃ r : Int, e = .returned (.int .i64 r) ∧ decide (0 ≤ r) = inU l (UInt8.ofNat b)) ∧ w' = w := by
  go_enter Tryz.func158, Tryz.ntmps158
  go_wp2
  go_loopw [8] (fun i wr => ∃ k : Nat, k ≤ l.length ∧ i = .int .i64 k ∧ inU (l.take k) (UInt8.ofNat b) = false ∧ wr = w) (fun i _ => l.length - (intOf i).toNat)
  case atStart => exact ⟨0, Nat.zero_le _, rfl, rfl, rfl⟩
  case round =>
    obtain ⟨k, hk, rfl, hn, rfl⟩ := hrel
    have HN := Lib.hid hn
    clear hn
    by_cases hlt : k < l.length
    · obtain ⟨b1, o1, rfl, hb1, -, c1⟩ := rowCell8 (vals := rune1) (sz := 1) (fun _ => rfl) (by omega) hA hlt
      have c1 := c1 0 (.int .i32 l[k].toNat) rfl
      rw [Nat.add_zero, Nat.mul_one] at c1
      have hk0 : (0 : Int) ≤ (k : Int) := Int.natCast_nonneg _
      have hk1 : (k : Int) < (l.length : Int) := by omega
      by_cases hp : l[k] = UInt8.ofNat b
      · have HS := Lib.hid (show inU l (UInt8.ofNat b) = true by unfold inU; rw [← hp]; simp)
        have he : ((b : Int) == (l[k].toNat : Int)) = true := by rw [hp]; simp [Nat.mod_eq_of_lt hb]
        clear HN hA hp
        generalize l[k].toNat = x at *
        go_wp2
        go_ret
        exact ⟨⟨_, rfl, by rw [HS.out]; simp⟩, rfl⟩
      · have HS := Lib.hid (show inU (l.take (k + 1)) (UInt8.ofNat b) = false from index_next hlt HN.out hp)
        have he : ((b : Int) == (l[k].toNat : Int)) = false := by
          simp only [beq_eq_false_iff_ne, ne_eq, Int.natCast_inj]
          intro h
          exact hp (by rw [h]; simp)
        clear HN hA hp
        generalize l[k].toNat = x at *
        go_wp2
        go_roundw
        case rel => exact ⟨k + 1, by omega, by go_num, HS.out, by first | rfl | trivial⟩
        case measure => simp [intOf]; omega
    · have HS := Lib.hid (show inU l (UInt8.ofNat b) = false by have := HN.out; rwa [List.take_of_length_le (by omega)] at this)
      clear HN hA
      go_wp2
      go_ret
      exact ⟨⟨_, rfl, by rw [HS.out]; rfl⟩, rfl⟩
theorem has33_any (p : Int) (b : Nat) (hb : b < 256) (w : World) : Calls Tryz.prog 84 #[.int .i64 p, .int .i32 b] w fun e w' => e = .returned (.bool (hasC p (UInt8.ofNat b))) ∧ Below w.heap.size w w' := by
  have hlen : (cFields p).length ≤ 1000 := by
    rcases cFields_cases p with hlo | hhi | rfl | rfl | rfl | rfl | rfl | rfl | rfl | rfl | rfl | rfl | rfl | rfl | rfl | rfl | rfl | rfl | rfl | rfl | rfl | rfl | rfl | rfl
    · rw [cFields_low hlo]; decide
    · rw [cFields_high hhi]; decide
    all_goals decide
  have hcv := runes33 p
  have KF := callFields_any p
  have HS := Lib.hid (show hasC p (UInt8.ofNat b) = inU (cFields p) (UInt8.ofNat b) from rfl)
  generalize cFields p = l at *
  generalize hasC p (UInt8.ofNat b) = res at *
  have KC : ∀ (A : Option Addr) (c : Nat) (W : World), At W 1 A (l.map rune1) → Calls Tryz.prog 123 #[.slice A l.length c, .int .i32 b] W fun e w' => e = .returned (.bool (inU l (UInt8.ofNat b))) ∧ w' = W := by
    intro A c W hA
    have K := Lib.hid (index33_any b hb A c l W hlen hA)
    clear hcv KF HS hA
    go_enter Tryz.func123, Tryz.ntmps123
    go_wp2_with fail
    refine K.out.mono ?_
    rintro e w1 ⟨⟨r, rfl, hr⟩, rfl⟩
    have HR := Lib.hid hr
    clear hr
    go_wp2
    go_ret
    exact ⟨ret_bool (by rw [← HR.out]), rfl⟩
  have KC := Lib.hid KC
  have hcv := Lib.hid hcv
  have KF := Lib.hid KF
  go_enter Tryz.func84, Tryz.ntmps84
  go_wp2_with fail
  refine (KF.out _).mono ?_
  rintro e w1 ⟨rfl, hb1⟩
  obtain ⟨bb, c, V, hrun, hAt, hB⟩ := hcv.out w1
  have HA := Lib.hid hAt
  have HB := Lib.hid (And.intro hb1 hB)
  clear hAt hb1 hB
  go_wp2_with fail
  refine (KC.out _ c V HA.out).mono ?_
  rintro e w2 ⟨rfl, rfl⟩
  go_wp2
  go_ret
  exact ⟨ret_bool HS.out.symm, below_then HB.out.1 HB.out.2⟩
end Go.Proofs.YtfjflkmhhbhceaaGreatDoor
