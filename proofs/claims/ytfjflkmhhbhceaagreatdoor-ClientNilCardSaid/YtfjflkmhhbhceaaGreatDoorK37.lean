/-
  Layer 33, plain: what a client is, and what it does when it is asked, when something comes, and when time passes. No condition.
-/
import Derived.Test.YtfjflkmhhbhceaaGreatDoorK24
import Derived.Test.YtfjflkmhhbhceaaGreatDoorK28
import Derived.Test.YtfjflkmhhbhceaaGreatDoorK34
import Derived.Test.YtfjflkmhhbhceaaGreatDoorK36
import Derived.Test.YtfjflkmhhbhceaaGreatDoorK21
import Derived.Test.YtfjflkmhhbhceaaGreatDoorK09
import Derived.Test.YtfjflkmhhbhceaaGreatDoorK19
import Derived.Laws.IdiomStrings
namespace Go.Proofs.YtfjflkmhhbhceaaGreatDoor
open Go.RowKit

/-- a record, with its results as they are told -/
structure RecdD where
  cred : Cred
  beg : Int
  fin : Int
  call : Call
  rep : RepD
/-- a client -/
structure ClD where
  id : Int
  self : Int
  server : Int
  ps : List CPlace
  parts : List CPart
  now : CPart
  busy : Bool
  sent : Packet
  due : Int
  made : Int
  recs : List RecdD
def timedC (n : Int) : Bool := decide (0 ≤ n) && decide (n ≤ 1099511627776)
def placeC (i : Int) : Bool := decide (0 ≤ i) && decide (i < 4)
def bornC (p : Int) : Bool := p == 3 || (decide (8 ≤ p) && decide (p ≤ 11))
def placeZ33 : CPlace := ⟨[], 0, 0, []⟩
def ClD.at_ (c : ClD) (i : Int) : CPlace := c.ps.getD i.toNat placeZ33
def ClD.put_ (c : ClD) (i : Int) (p : CPlace) : ClD := { c with ps := c.ps.set i.toNat p }
/-- what waits at a place is written ahead -/
def ClD.ahead (c : ClD) (i : Int) : ClD × List CPart :=
  if (c.at_ i).bytes = [] then (c, [])
  else (c.put_ i { c.at_ i with at_ := 0, bytes := [] }, [⟨{ callZ with proc := 7, offset := (c.at_ i).at_, data := (c.at_ i).bytes, how := 2 }, i, 0, -1, 0, 0⟩])
/-- bytes wait at a place -/
def ClD.late (c : ClD) (i : Int) (x : Call) : ClD × List CPart :=
  if x.data = [] then (c, [])
  else if (c.at_ i).bytes ≠ [] ∧ x.offset - (c.at_ i).at_ = (c.at_ i).bytes.length ∧ (c.at_ i).bytes.length + x.data.length ≤ 256 then (c.put_ i { c.at_ i with bytes := (c.at_ i).bytes ++ x.data }, [])
  else ((c.ahead i).1.put_ i { c.at_ i with at_ := x.offset, bytes := x.data }, (c.ahead i).2)
/-- the call that is asked for, the places that it uses, and whether there is such a kind -/
def askedC (a : Ask) : Call × List Int × Bool :=
  if a.kind = 1 then ({ callZ with proc := 3, name := a.call.name }, [a.dir, a.var], true)
  else if a.kind = 2 then ({ callZ with proc := 6, offset := a.call.offset, count := a.call.count }, [a.var], true)
  else if a.kind = 3 then ({ callZ with proc := 7, offset := a.call.offset, data := a.call.data, how := 2 }, [a.var], true)
  else if a.kind = 4 then ({ callZ with proc := 21 }, [a.var], true)
  else if a.kind = 5 then ({ a.call with fh := [], fh2 := [] }, [a.dir, a.to_, a.var], true)
  else (callZ, [], false)
/-- the calls that are to be made -/
def ClD.plan (c : ClD) (a : Ask) (x : Call) : ClD × List CPart :=
  if a.kind = 1 then ((c.ahead a.var).1, (c.ahead a.var).2 ++ [⟨{ callZ with proc := 1 }, a.dir, 0, -1, 0, 0⟩, ⟨x, a.dir, 0, a.var, 0, 0⟩, ⟨{ callZ with proc := 1 }, a.var, 0, -1, 0, 0⟩])
  else if a.kind = 3 then c.late a.var x
  else if a.kind = 5 then
    if bornC x.proc then ((c.ahead a.var).1, (c.ahead a.var).2 ++ [⟨x, a.dir, a.to_, a.var, 0, 0⟩]) else (c, [⟨x, a.dir, a.to_, -1, 0, 0⟩])
  else ((c.ahead a.var).1, (c.ahead a.var).2 ++ [⟨x, a.var, 0, -1, 0, 0⟩])
def hasC (p : Int) (b : UInt8) : Bool := (cFields p).contains b
/-- the call as it is sent: with the handles of its places -/
def ClD.sends (c : ClD) (p : CPart) : Call :=
  let x := if hasC p.c.proc 102 then { p.c with fh := (c.at_ p.dir).handle } else p.c
  if hasC p.c.proc 70 then { x with fh2 := (c.at_ p.to_).handle } else x
/-- the call as it is recorded: with Gens in the place of handles -/
def ClD.tells (c : ClD) (p : CPart) : Call :=
  let x := if hasC p.c.proc 102 then { p.c with fh := genText (c.at_ p.dir).gen } else p.c
  if hasC p.c.proc 70 then { x with fh2 := genText (c.at_ p.to_).gen } else x
def ClD.cred (c : ClD) (p : CPart) : Cred := ⟨c.id, c.made + 1, p.uid, p.gid⟩
def ClD.message (c : ClD) (p : CPart) : Message := ⟨c.made + 1, false, false, p.c.proc, c.cred p, 0, (cPut (c.sends p)).1⟩
def putBytes (m : Message) : List UInt8 := if m.bad then [] else m.bytes
def ClD.packet (c : ClD) (p : CPart) : Packet := ⟨c.self, c.server, putBytes (c.message p)⟩
def repD0 : RepD := ⟨fldsZ, [], []⟩
/-- the next call is made -/
def ClD.next (c : ClD) (step now : Int) : ClD × List Packet :=
  match c.parts with
  | [] => (c, [])
  | p :: l => ({ c with parts := l, now := p, busy := true, sent := c.packet p, due := now + 8, made := c.made + 1, recs := c.recs ++ [⟨c.cred p, step, 0, c.tells p, repD0⟩] }, [c.packet p])
def whoC (a : Ask) : Bool := decide (0 ≤ a.uid) && decide (a.uid ≤ 4294967295) && (decide (0 ≤ a.gid) && decide (a.gid ≤ 4294967295))
def mayAsk (a : Ask) (step now : Int) : Bool :=
  (askedC a).2.2 && decide (1 ≤ step) && timedC now && (askedC a).2.1.all placeC && whoC a && decide (cCheck (askedC a).1 = 0)
/-- a client is asked -/
def ClD.ask (c : ClD) (a : Ask) (step now : Int) : ClD × List Packet × Int :=
  if c.busy then (c, [], 34)
  else if mayAsk a step now = false then (c, [], 2)
  else
    let q := c.plan a (askedC a).1
    let r := ({ q.1 with parts := q.2.map fun p => { p with uid := a.uid, gid := a.gid } } : ClD).next step now
    (r.1, r.2, 0)
/-- results, with Gens in the place of handles -/
def toldC (d : RepD) : RepD :=
  ⟨if d.f.fh = [] then d.f else { d.f with fh := genText d.f.obj.attr.gen }, d.es.map fun e => if e.fh = [] then e else { e with fh := genText e.gen }, d.us⟩
def lastSet (l : List RecdD) (step : Int) (d : RepD) : List RecdD :=
  match l.getLast? with
  | none => l
  | some r => l.dropLast ++ [{ r with fin := step, rep := d }]
/-- something comes -/
def ClD.take (c : ClD) (x : Packet) (step now : Int) : ClD × List Packet :=
  if c.busy = false ∨ x.from_ ≠ c.server ∨ step < 1 ∨ timedC now = false then (c, [])
  else if (getM9 x.data).2 ≠ 0 ∨ (getM9 x.data).1.answer = false ∨ (getM9 x.data).1.xid ≠ c.made ∨ (getM9 x.data).1.accept ≠ 0 then (c, [])
  else match pGet c.now.c.proc (getM9 x.data).1.body with
    | none => (c, [])
    | some d =>
      let c1 := { c with recs := lastSet c.recs step (toldC d), busy := false }
      if d.f.status ≠ 0 then ({ c1 with parts := [] }, [])
      else if c.now.put ≠ -1 ∧ d.f.fh ≠ [] ∧ d.f.obj.is = true then (c1.put_ c.now.put { c.at_ c.now.put with handle := d.f.fh, gen := d.f.obj.attr.gen }).next step now
      else c1.next step now
/-- what is due is sent once more -/
def ClD.tick (c : ClD) (now : Int) : ClD × List Packet :=
  if c.busy = false ∨ timedC now = false ∨ now < c.due then (c, []) else ({ c with due := now + 8 }, [c.sent])
def rootP : CPlace := ⟨[], 1, 0, []⟩
def partZ33 : CPart := ⟨callZ, 0, 0, 0, 0, 0⟩
def packetZ33 : Packet := ⟨0, 0, []⟩
/-- a client that was made: its places hold the root's handle -/
def clNew (id self server : Int) (root : List UInt8) : ClD := ⟨id, self, server, List.replicate 4 ⟨root, 1, 0, []⟩, [], partZ33, false, packetZ33, 0, 0, []⟩
end Go.Proofs.YtfjflkmhhbhceaaGreatDoor

/-
  Layer 33: a client in memory: its block, its calls that are to be made, its records; what is kept when other blocks change. No condition.
-/
namespace Go.Proofs.YtfjflkmhhbhceaaGreatDoor
open Go.RowKit

/-- the block of a slice, if there is one, is one of F -/
def InF (F : Nat → Prop) (v : Value) : Prop := ∀ k, v.ownBlock = some k → F k
/-- a block of cells of one of these types -/
def TyIn (w : World) (ts : List TypeId) (k : Nat) : Prop := ∃ C t fr, w.heap[k]? = some (.cells C t fr) ∧ t ∈ ts
theorem InF.mono {F G : Nat → Prop} {v : Value} (h : InF F v) (hG : ∀ k, F k → G k) : InF G v := fun k hk => hG k (h k hk)
theorem own_ty {w : World} {B n sz : Nat} {e : TypeId} {v : Value} {xs : List Value} (h : w.ownsRow B e sz v n xs) : ∀ k, v.ownBlock = some k → ∃ C, w.heap[k]? = some (.cells C e (0, 0)) := by
  intro k hk
  rcases h.2 with ⟨rfl, _⟩ | ⟨g, cap, cur, rfl, _, hh, _⟩
  · cases hk
  · have : g = k := by simpa [Value.ownBlock] using hk
    subst this
    exact ⟨cur, hh⟩
theorem ty_one {w : World} {ts : List TypeId} {k : Nat} {C : Array Value} {e : TypeId} {fr : Nat × Nat} (h : w.heap[k]? = some (.cells C e fr)) (ht : TyIn w ts k) : e ∈ ts := by
  obtain ⟨D, t, fr', h2, hm⟩ := ht
  rw [h] at h2
  injection h2 with h2
  injection h2 with _ h3
  rw [h3]
  exact hm
section
variable {w w' : World} {B : Nat} {e : TypeId} {sz : Nat} {v : Value} {rows : List (List Value)} {F G : Nat → Prop}
theorem RowS.tou {ts : List TypeId} (h : RowS w B e sz v rows) (ht : Touch (TyIn w ts) w w') (he : e ∉ ts) : RowS w' B e sz v rows :=
  h.touch ht fun k hk hf => by
    obtain ⟨C, hC⟩ := own_ty h.2 k hk
    exact he (ty_one hC hf)
theorem RowS.away (h : RowS w B e sz v rows) (hi : InF F v) (ht : Touch G w w') (hd : ∀ k, F k → ¬ G k) : RowS w' B e sz v rows :=
  h.touch ht fun k hk => hd k (hi k hk)
end

/-- results as a record holds them -/
structure RepAt (w : World) (F : Nat → Prop) (z : Reply) (d : RepD) : Prop where
  bare : z.bare = d.f
  es : RowS w 0 126 15 (.slice z.ea z.en z.ec) (d.es.map Entry.vals)
  us : RowS w 0 3 1 (.slice z.ua z.un z.uc) (d.us.map int1)
  ie : InF F (.slice z.ea z.en z.ec)
  iu : InF F (.slice z.ua z.un z.uc)
  le : d.es.length ≤ 1000000
  lu : d.us.length ≤ 1000000
structure RecIs (w : World) (F : Nat → Prop) (x : Recd) (r : RecdD) : Prop where
  cred : x.cred = r.cred
  beg : x.begin_ = r.beg
  fin : x.end_ = r.fin
  call : x.call = r.call
  rep : RepAt w F x.reply r.rep
/-- a row of records -/
structure RecsAt (w : World) (F : Nat → Prop) (v : Value) (l : List Recd) (rs : List RecdD) : Prop where
  row : RowS w 0 65 88 v (l.map Recd.vals)
  own : InF F v
  len : l.length = rs.length
  each : ∀ (i : Nat) (h : i < l.length) (h' : i < rs.length), RecIs w F l[i] rs[i]
/-- calls that are to be made -/
structure PartsAt (w : World) (F : Nat → Prop) (A : Option Addr) (n cap : Nat) (l : List CPart) : Prop where
  len : n = l.length
  fit : n ≤ cap
  row : At w 29 A (l.map CPart.vals)
  own : ∀ p, A = some p → F p.block ∧ ∃ C, w.heap[p.block]? = some (.cells C 91 (0, 0))
structure ClZ (c : ClD) (z : Clnt) : Prop where
  id : z.id = c.id
  self : z.self = c.self
  server : z.server = c.server
  ps : c.ps = [z.p0, z.p1, z.p2, z.p3]
  now : z.now = c.now
  busy : z.busy = c.busy
  sent : z.sent = c.sent
  due : z.due = c.due
  made : z.made = c.made
/-- a client at g, that owns the blocks of F -/
structure ClAt (F : Nat → Prop) (w : World) (g : Nat) (c : ClD) (z : Clnt) (l : List Recd) : Prop where
  blk : Blk w g 93 z.vals
  is : ClZ c z
  pts : PartsAt w F z.ta z.tn z.tc c.parts
  rcs : RecsAt w F (.slice z.ra z.rn z.rc) l c.recs
  fg : F g
  lt : ∀ k, F k → k < w.heap.size
def own33 : List TypeId := [93, 91, 65]

section
variable {w w' : World} {F G : Nat → Prop}
theorem RepAt.tou {z : Reply} {d : RepD} (h : RepAt w F z d) (ht : Touch (TyIn w own33) w w') : RepAt w' F z d :=
  ⟨h.bare, h.es.tou ht (by decide), h.us.tou ht (by decide), h.ie, h.iu, h.le, h.lu⟩
theorem RepAt.away {z : Reply} {d : RepD} (h : RepAt w F z d) (ht : Touch G w w') (hd : ∀ k, F k → ¬ G k) : RepAt w' F z d :=
  ⟨h.bare, h.es.away h.ie ht hd, h.us.away h.iu ht hd, h.ie, h.iu, h.le, h.lu⟩
theorem RepAt.mono {z : Reply} {d : RepD} (h : RepAt w F z d) (hG : ∀ k, F k → G k) : RepAt w G z d :=
  ⟨h.bare, h.es, h.us, h.ie.mono hG, h.iu.mono hG, h.le, h.lu⟩
theorem RepAt.there {z : Reply} {d : RepD} (h : RepAt w F z d) : (RepL.mk z d.es d.us).There w := by
  obtain ⟨A, c, hv, hA⟩ := h.es.at_
  obtain ⟨A', c', hv', hA'⟩ := h.us.at_
  injection hv with h1 h2 h3
  injection hv' with h1' h2' h3'
  subst h1 h1'
  have := h.le
  have := h.lu
  exact ⟨by simpa using h2, by simpa using h2', by show d.es.length ≤ _; omega, by show d.us.length ≤ _; omega, hA, hA'⟩
theorem RecIs.tou {x : Recd} {r : RecdD} (h : RecIs w F x r) (ht : Touch (TyIn w own33) w w') : RecIs w' F x r := ⟨h.cred, h.beg, h.fin, h.call, h.rep.tou ht⟩
theorem RecIs.away {x : Recd} {r : RecdD} (h : RecIs w F x r) (ht : Touch G w w') (hd : ∀ k, F k → ¬ G k) : RecIs w' F x r := ⟨h.cred, h.beg, h.fin, h.call, h.rep.away ht hd⟩
theorem RecIs.mono {x : Recd} {r : RecdD} (h : RecIs w F x r) (hG : ∀ k, F k → G k) : RecIs w G x r := ⟨h.cred, h.beg, h.fin, h.call, h.rep.mono hG⟩
theorem tyIn_less {ts us : List TypeId} (h : ∀ t ∈ ts, t ∈ us) : ∀ k, TyIn w ts k → TyIn w us k := fun _ ⟨C, t, fr, hh, hm⟩ => ⟨C, t, fr, hh, h t hm⟩
theorem Touch.less {ts us : List TypeId} (ht : Touch (TyIn w ts) w w') (h : ∀ t ∈ ts, t ∈ us) : Touch (TyIn w us) w w' := ht.mono fun k _ => tyIn_less h k
theorem RecsAt.tou {v : Value} {l : List Recd} {rs : List RecdD} (h : RecsAt w F v l rs) (ht : Touch (TyIn w [93, 91]) w w') : RecsAt w' F v l rs :=
  ⟨h.row.tou ht (by decide), h.own, h.len, fun i h1 h2 => (h.each i h1 h2).tou (ht.less (by decide))⟩
theorem RecsAt.away {v : Value} {l : List Recd} {rs : List RecdD} (h : RecsAt w F v l rs) (ht : Touch G w w') (hd : ∀ k, F k → ¬ G k) : RecsAt w' F v l rs :=
  ⟨h.row.away h.own ht hd, h.own, h.len, fun i h1 h2 => (h.each i h1 h2).away ht hd⟩
theorem RecsAt.mono {v : Value} {l : List Recd} {rs : List RecdD} (h : RecsAt w F v l rs) (hG : ∀ k, F k → G k) : RecsAt w G v l rs :=
  ⟨h.row, h.own.mono hG, h.len, fun i h1 h2 => (h.each i h1 h2).mono hG⟩
theorem PartsAt.lt {A : Option Addr} {n cap : Nat} {l : List CPart} (h : PartsAt w F A n cap l) {p : Addr} (hp : A = some p) : p.block < w.heap.size := by
  obtain ⟨-, C, hC⟩ := h.own p hp
  rcases Nat.lt_or_ge p.block w.heap.size with hlt | hge
  · exact hlt
  · rw [Array.getElem?_eq_none hge] at hC; cases hC
theorem PartsAt.touch {A : Option Addr} {n cap : Nat} {l : List CPart} (h : PartsAt w F A n cap l) (ht : Touch G w w') (hd : ∀ p, A = some p → ¬ G p.block) : PartsAt w' F A n cap l :=
  ⟨h.len, h.fit, h.row.touch ht (fun b off hA => hd _ hA), fun p hp => by
    obtain ⟨h1, C, hC⟩ := h.own p hp
    exact ⟨h1, C, (ht.block p.block (h.lt hp) (hd p hp)).trans hC⟩⟩
theorem PartsAt.tou {A : Option Addr} {n cap : Nat} {l : List CPart} (h : PartsAt w F A n cap l) (ht : Touch (TyIn w [93, 65]) w w') : PartsAt w' F A n cap l :=
  h.touch ht fun p hp hf => by
    obtain ⟨-, C, hC⟩ := h.own p hp
    exact absurd (ty_one hC hf) (by decide)
theorem PartsAt.away {A : Option Addr} {n cap : Nat} {l : List CPart} (h : PartsAt w F A n cap l) (ht : Touch G w w') (hd : ∀ k, F k → ¬ G k) : PartsAt w' F A n cap l :=
  h.touch ht fun p hp => hd _ (h.own p hp).1
theorem PartsAt.mono {A : Option Addr} {n cap : Nat} {l : List CPart} (h : PartsAt w F A n cap l) (hG : ∀ k, F k → G k) : PartsAt w G A n cap l :=
  ⟨h.len, h.fit, h.row, fun p hp => ⟨hG _ (h.own p hp).1, (h.own p hp).2⟩⟩
theorem PartsAt.none_ (n c : Nat) (h : n = 0) : PartsAt w F none n c [] := ⟨h, by omega, At.nil, fun p hp => by cases hp⟩
theorem ClAt.away {g : Nat} {c : ClD} {z : Clnt} {l : List Recd} (h : ClAt F w g c z l) (ht : Touch G w w') (hd : ∀ k, F k → ¬ G k) : ClAt F w' g c z l :=
  ⟨h.blk.touch ht (hd g h.fg), h.is, h.pts.away ht hd, h.rcs.away ht hd, h.fg, fun k hk => Nat.lt_of_lt_of_le (h.lt k hk) ht.size⟩
theorem ClAt.below {g : Nat} {c : ClD} {z : Clnt} {l : List Recd} (h : ClAt F w g c z l) (hb : Below w.heap.size w w') : ClAt F w' g c z l :=
  h.away (Touch.of_below hb (fun _ => False)) fun _ _ hf => hf
theorem ClAt.mono {g : Nat} {c : ClD} {z : Clnt} {l : List Recd} (h : ClAt F w g c z l) (hG : ∀ k, F k → G k) (hl : ∀ k, G k → k < w.heap.size) : ClAt G w g c z l :=
  ⟨h.blk, h.is, h.pts.mono hG, h.rcs.mono hG, hG g h.fg, hl⟩
theorem tyIn_of {g : Nat} {t : TypeId} {cs : List Value} {ts : List TypeId} (h : Blk w g t cs) (ht : t ∈ ts) : TyIn w ts g := ⟨_, _, _, h, ht⟩
/-- the client's own block alone has changed -/
theorem ClAt.own {g : Nat} {c c' : ClD} {z z' : Clnt} {l : List Recd} (h : ClAt F w g c z l) (ht : Touch (fun k => k = g) w w') (hB : Blk w' g 93 z'.vals) (hz : ClZ c' z')
    (h1 : z'.ta = z.ta) (h2 : z'.tn = z.tn) (h2c : z'.tc = z.tc) (h3 : c'.parts = c.parts) (h4 : z'.ra = z.ra) (h5 : z'.rn = z.rn) (h6 : z'.rc = z.rc) (h7 : c'.recs = c.recs) : ClAt F w' g c' z' l := by
  have hty : Touch (TyIn w [93]) w w' := ht.mono fun k _ hk => by subst hk; exact tyIn_of h.blk (by decide)
  refine ⟨hB, hz, ?_, ?_, h.fg, fun k hk => Nat.lt_of_lt_of_le (h.lt k hk) ht.size⟩
  · rw [h1, h2, h2c, h3]
    exact h.pts.tou (hty.less (by decide))
  · rw [h4, h5, h6, h7]
    exact h.rcs.tou (hty.less (by decide))
end
/-- a client at g, whose blocks are F's or new -/
def Cl (F : Nat → Prop) (n : Nat) (w : World) (g : Nat) (c : ClD) : Prop := ∃ G z l, (∀ k, G k → F k ∨ n ≤ k) ∧ ClAt G w g c z l
end Go.Proofs.YtfjflkmhhbhceaaGreatDoor


/-
  Layer 33, walks: a time, places, procedures that tell a handle, a procedure's letters. Conditions: lengths.
-/
namespace Go.Proofs.YtfjflkmhhbhceaaGreatDoor
open Go.RowKit

theorem timed33_any (n : Int) (w : World) : Calls Tryz.prog 34 #[.int .i64 n] w fun e w' => e = .returned (.bool (timedC n)) ∧ w' = w := by
  go_enter Tryz.func34, Tryz.ntmps34
  go_wp2
  all_goals (go_ret; go_light; exact ⟨ret_bool (by unfold timedC; grind), rfl⟩)
theorem born33_any (n : Int) (w : World) : Calls Tryz.prog 83 #[.int .i64 n] w fun e w' => e = .returned (.bool (bornC n)) ∧ w' = w := by
  go_enter Tryz.func83, Tryz.ntmps83
  go_wp2
  all_goals (go_ret; go_light; exact ⟨ret_bool (by unfold bornC; grind), rfl⟩)
theorem thereOne_any (n : Int) (w : World) : Calls Tryz.prog 75 #[.int .i64 n] w fun e w' => e = .returned (.bool (!placeC n)) ∧ w' = w := by
  go_enter Tryz.func75, Tryz.ntmps75
  go_wp2
  all_goals (go_ret; go_light; exact ⟨ret_bool (by unfold placeC; grind), rfl⟩)
theorem all_next {p : Int → Bool} {l : List Int} {k : Nat} (hk : k < l.length) (h : (l.take k).all p = true) (hp : p l[k] = true) : (l.take (k + 1)).all p = true := by
  rw [List.take_add_one, List.getElem?_eq_getElem hk, List.all_append, h]
  simp [hp]
theorem all_stop {p : Int → Bool} {l : List Int} {k : Nat} (hk : k < l.length) (hp : p l[k] = false) : l.all p = false := by
  rw [List.all_eq_false]
  exact ⟨_, List.getElem_mem hk, by simp [hp]⟩
set_option maxHeartbeats 800000 in
theorem thereIdx_any (A : Option Addr) (c : Nat) (l : List Int) (w : World) (hl : l.length ≤ 1000) (hA : At w 1 A (l.map int1)) :
    Calls Tryz.prog 118 #[.slice A l.length c, .func (.func 75) #[] #[]] w fun e w' => (∃ r : Int, e = .returned (.int .i64 r) ∧ decide (0 ≤ r) = !(l.all placeC)) ∧ w' = w := by
  have hcf : ∀ args W, (callFunc 75 args).run Tryz.prog W = .ok (.enter 75 args) W := fun args W => by kernel_rfl
  go_enter Tryz.func118, Tryz.ntmps118
  go_wp2
  go_loopw [8] (fun i wr => ∃ k : Nat, k ≤ l.length ∧ i = .int .i64 k ∧ (l.take k).all placeC = true ∧ wr = w) (fun i _ => l.length - (intOf i).toNat)
  case atStart => exact ⟨0, Nat.zero_le _, rfl, rfl, rfl⟩
  case round =>
    obtain ⟨k, hk, rfl, hn, rfl⟩ := hrel
    have HN := Lib.hid hn
    clear hn
    by_cases hlt : k < l.length
    · obtain ⟨b1, o1, rfl, hb1, -, c1⟩ := rowCell8 (vals := int1) (sz := 1) (fun _ => rfl) (by omega) hA hlt
      have c1 := c1 0 (.int .i64 l[k]) rfl
      rw [Nat.add_zero, Nat.mul_one] at c1
      have hk0 : (0 : Int) ≤ (k : Int) := Int.natCast_nonneg _
      have hk1 : (k : Int) < (l.length : Int) := by omega
      by_cases hp : placeC l[k] = true
      · have HS := Lib.hid (all_next hlt HN.out hp)
        clear HN hA
        generalize l[k] = x at *
        go_wp2_with fail
        refine (thereOne_any x _).mono ?_
        rintro e w1 ⟨rfl, rfl⟩
        rw [hp]
        clear hp
        go_wp2
        go_roundw
        case rel => exact ⟨k + 1, by omega, by go_num, HS.out, by first | rfl | trivial⟩
        case measure => simp [intOf]; omega
      · rw [Bool.not_eq_true] at hp
        have HS := Lib.hid (all_stop hlt hp)
        clear HN hA
        generalize l[k] = x at *
        go_wp2_with fail
        refine (thereOne_any x _).mono ?_
        rintro e w1 ⟨rfl, rfl⟩
        rw [hp]
        clear hp
        go_wp2
        go_ret
        exact ⟨⟨_, rfl, by rw [HS.out]; simp⟩, rfl⟩
    · have HS := Lib.hid (show l.all placeC = true by have := HN.out; rwa [List.take_of_length_le (by omega)] at this)
      clear HN hA
      go_wp2
      go_ret
      exact ⟨⟨_, rfl, by rw [HS.out]; rfl⟩, rfl⟩
theorem there33_any (A : Option Addr) (c : Nat) (l : List Int) (w : World) (hl : l.length ≤ 1000) (hA : At w 1 A (l.map int1)) :
    Calls Tryz.prog 35 #[.slice A l.length c] w fun e w' => e = .returned (.bool (l.all placeC)) ∧ w' = w := by
  have K : Calls Tryz.prog 74 #[.slice A l.length c, .func (.func 75) #[] #[]] w fun e w' => e = .returned (.bool (!(l.all placeC))) ∧ w' = w := by
    go_enter Tryz.func74, Tryz.ntmps74
    go_wp2_with fail
    refine (thereIdx_any A c l w hl hA).mono ?_
    rintro e w1 ⟨⟨r, rfl, hr⟩, rfl⟩
    have HR := Lib.hid hr
    clear hr
    go_wp2
    go_ret
    exact ⟨ret_bool (by rw [← HR.out]), rfl⟩
  have K := Lib.hid K
  go_enter Tryz.func35, Tryz.ntmps35
  go_wp2_with fail
  refine K.out.mono ?_
  rintro e w1 ⟨rfl, rfl⟩
  go_wp2
  go_ret
  exact ⟨ret_bool (by simp), rfl⟩
end Go.Proofs.YtfjflkmhhbhceaaGreatDoor


/-
  Layer 33, walks: has a procedure a letter. No condition.
-/
namespace Go.Proofs.YtfjflkmhhbhceaaGreatDoor
open Go.RowKit

def rune1 (b : UInt8) : List Value := [.int .i32 b.toNat]
theorem runes_are (p : Int) : Conv.runesFrom (bs (cFields p)) (bs (cFields p)).size 0 #[] = ((cFields p).map fun b => Value.int .i32 b.toNat).toArray := by
  rcases cFields_cases p with hlo | hhi | rfl | rfl | rfl | rfl | rfl | rfl | rfl | rfl | rfl | rfl | rfl | rfl | rfl | rfl | rfl | rfl | rfl | rfl | rfl | rfl | rfl | rfl
  · rw [cFields_low hlo]; kernel_rfl
  · rw [cFields_high hhi]; kernel_rfl
  all_goals kernel_rfl
theorem runes33 (p : Int) (W : World) : ∃ b c V, (convert 9 192 (.string (bs (cFields p)))).run Tryz.prog W = .ok (.slice (some ⟨b, 0, none⟩) (cFields p).length c) V ∧ At V 1 (some ⟨b, 0, none⟩) ((cFields p).map rune1) ∧ Below W.heap.size W V := by
  have hr := runes_are p
  have hlen : (cFields p).length ≤ 100 := by
    rcases cFields_cases p with hlo | hhi | rfl | rfl | rfl | rfl | rfl | rfl | rfl | rfl | rfl | rfl | rfl | rfl | rfl | rfl | rfl | rfl | rfl | rfl | rfl | rfl | rfl | rfl
    · rw [cFields_low hlo]; decide
    · rw [cFields_high hhi]; decide
    all_goals decide
  generalize cFields p = l at *
  have h := run_runes_of_string (P := Tryz.prog) W 9 192 21 (bs l) Tryz.underlying9 Tryz.underlying192 Tryz.underlying21 (by rw [hr]; simp; omega)
  rw [hr] at h
  simp only [List.size_toArray, List.length_map] at h
  refine ⟨_, _, _, h, ?_, (Below.refl _ _).drew.alloc (Nat.le_refl _) _⟩
  intro i r hi
  rw [List.getElem?_map] at hi
  cases hli : l[i]? with
  | none => rw [hli] at hi; cases hi
  | some x =>
    rw [hli] at hi
    have hi2 : rune1 x = r := Option.some.inj hi
    subst hi2
    refine ⟨_, _, rfl, by simp, fun j u hj => ?_⟩
    have hj0 : j = 0 := by
      cases j with
      | zero => rfl
      | succ j => cases hj
    subst hj0
    have hu : Value.int .i32 x.toNat = u := Option.some.inj hj
    subst hu
    have hlt := (List.getElem?_eq_some_iff.1 hli).1
    have hdr : W.heap.size = W.drew.heap.size := rfl
    rw [show (⟨W.heap.size, 0 + i * 1 + 0, none⟩ : Addr) = ⟨W.drew.heap.size, i, none⟩ by rw [← hdr]; simp]
    rw [World.cell?_alloc_at _ _ _ _ rfl]
    rw [Array.getElem?_append_left (by simpa using hlt)]
    simp [hli]
theorem index_next {b : UInt8} {l : List UInt8} {k : Nat} (hk : k < l.length) (h : (l.take k).contains b = false) (hp : l[k] ≠ b) : (l.take (k + 1)).contains b = false := by
  rw [List.take_add_one, List.getElem?_eq_getElem hk]
  simp only [List.contains_eq_mem, decide_eq_false_iff_not, List.mem_append] at h ⊢
  simp only [Option.toList_some, List.mem_singleton]
  rintro (h2 | h2)
  · exact h h2
  · exact hp h2.symm
def inU (l : List UInt8) (b : UInt8) : Bool := l.contains b
set_option maxHeartbeats 800000 in
theorem index33_any (b : Nat) (hb : b < 256) (A : Option Addr) (c : Nat) (l : List UInt8) (w : World) (hl : l.length ≤ 1000) (hA : At w 1 A (l.map rune1)) :
    Calls Tryz.prog 158 #[.slice A l.length c, .int .i32 b] w fun e w' => (∃ r : Int, e = .returned (.int .i64 r) ∧ decide (0 ≤ r) = inU l (UInt8.ofNat b)) ∧ w' = w := by
  go_enter Tryz.func158, Tryz.ntmps158
  go_wp2
  go_loopw [8] (fun i wr => ∃ k : Nat, k ≤ l.length ∧ i = .int .i64 k ∧ inU (l.take k) (UInt8.ofNat b) = false ∧ wr = w) (fun i _ => l.length - (intOf i).toNat)
  case atStart => exact ⟨0, Nat.zero_le _, rfl, rfl, rfl⟩
  case round =>
    obtain ⟨k, hk, rfl, hn, rfl⟩ := hrel
    have HN := Lib.hid hn
    clear hn
    by_cases hlt : k < l.length
    · obtain ⟨b1, o1, rfl, hb1, -, c1⟩ := rowCell8 (vals := rune1) (sz := 1) (fun _ => rfl) (by omega) hA hlt
      have c1 := c1 0 (.int .i32 l[k].toNat) rfl
      rw [Nat.add_zero, Nat.mul_one] at c1
      have hk0 : (0 : Int) ≤ (k : Int) := Int.natCast_nonneg _
      have hk1 : (k : Int) < (l.length : Int) := by omega
      by_cases hp : l[k] = UInt8.ofNat b
      · have HS := Lib.hid (show inU l (UInt8.ofNat b) = true by unfold inU; rw [← hp]; simp)
        have he : ((b : Int) == (l[k].toNat : Int)) = true := by rw [hp]; simp [Nat.mod_eq_of_lt hb]
        clear HN hA hp
        generalize l[k].toNat = x at *
        go_wp2
        go_ret
        exact ⟨⟨_, rfl, by rw [HS.out]; simp⟩, rfl⟩
      · have HS := Lib.hid (show inU (l.take (k + 1)) (UInt8.ofNat b) = false from index_next hlt HN.out hp)
        have he : ((b : Int) == (l[k].toNat : Int)) = false := by
          simp only [beq_eq_false_iff_ne, ne_eq, Int.natCast_inj]
          intro h
          exact hp (by rw [h]; simp)
        clear HN hA hp
        generalize l[k].toNat = x at *
        go_wp2
        go_roundw
        case rel => exact ⟨k + 1, by omega, by go_num, HS.out, by first | rfl | trivial⟩
        case measure => simp [intOf]; omega
    · have HS := Lib.hid (show inU l (UInt8.ofNat b) = false by have := HN.out; rwa [List.take_of_length_le (by omega)] at this)
      clear HN hA
      go_wp2
      go_ret
      exact ⟨⟨_, rfl, by rw [HS.out]; rfl⟩, rfl⟩
theorem has33_any (p : Int) (b : Nat) (hb : b < 256) (w : World) : Calls Tryz.prog 84 #[.int .i64 p, .int .i32 b] w fun e w' => e = .returned (.bool (hasC p (UInt8.ofNat b))) ∧ Below w.heap.size w w' := by
  have hlen : (cFields p).length ≤ 1000 := by
    rcases cFields_cases p with hlo | hhi | rfl | rfl | rfl | rfl | rfl | rfl | rfl | rfl | rfl | rfl | rfl | rfl | rfl | rfl | rfl | rfl | rfl | rfl | rfl | rfl | rfl | rfl
    · rw [cFields_low hlo]; decide
    · rw [cFields_high hhi]; decide
    all_goals decide
  have hcv := runes33 p
  have KF := callFields_any p
  have HS := Lib.hid (show hasC p (UInt8.ofNat b) = inU (cFields p) (UInt8.ofNat b) from rfl)
  generalize cFields p = l at *
  generalize hasC p (UInt8.ofNat b) = res at *
  have KC : ∀ (A : Option Addr) (c : Nat) (W : World), At W 1 A (l.map rune1) → Calls Tryz.prog 123 #[.slice A l.length c, .int .i32 b] W fun e w' => e = .returned (.bool (inU l (UInt8.ofNat b))) ∧ w' = W := by
    intro A c W hA
    have K := Lib.hid (index33_any b hb A c l W hlen hA)
    clear hcv KF HS hA
    go_enter Tryz.func123, Tryz.ntmps123
    go_wp2_with fail
    refine K.out.mono ?_
    rintro e w1 ⟨⟨r, rfl, hr⟩, rfl⟩
    have HR := Lib.hid hr
    clear hr
    go_wp2
    go_ret
    exact ⟨ret_bool (by rw [← HR.out]), rfl⟩
  have KC := Lib.hid KC
  have hcv := Lib.hid hcv
  have KF := Lib.hid KF
  go_enter Tryz.func84, Tryz.ntmps84
  go_wp2_with fail
  refine (KF.out _).mono ?_
  rintro e w1 ⟨rfl, hb1⟩
  obtain ⟨bb, c, V, hrun, hAt, hB⟩ := hcv.out w1
  have HA := Lib.hid hAt
  have HB := Lib.hid (And.intro hb1 hB)
  clear hAt hb1 hB
  go_wp2_with fail
  refine (KC.out _ c V HA.out).mono ?_
  rintro e w2 ⟨rfl, rfl⟩
  go_wp2
  go_ret
  exact ⟨ret_bool HS.out.symm, below_then HB.out.1 HB.out.2⟩
end Go.Proofs.YtfjflkmhhbhceaaGreatDoor


/-
  Layer 33, plain: a client's calls are numbered from 1 on, and none begins ahead of the end of the one ahead of it. No condition.
-/
namespace Go.Proofs.YtfjflkmhhbhceaaGreatDoor
open Go.RowKit

def lastOpen (l : List RecdD) : Bool := match l.getLast? with
  | none => false
  | some r => r.fin == 0
def recOk (id k : Int) (i : Nat) (r : RecdD) : Prop := r.cred.client = id ∧ r.cred.seq = i + 1 ∧ 1 ≤ r.beg ∧ r.beg ≤ k ∧ (r.fin = 0 ∨ (r.beg ≤ r.fin ∧ r.fin ≤ k))
/-- what holds of a client behind k steps -/
structure OneInv (c : ClD) (k : Int) : Prop where
  made : c.made = c.recs.length
  recs : ∀ (i : Nat) (h : i < c.recs.length), recOk c.id k i c.recs[i]
  order : ∀ (i : Nat) (h : i + 1 < c.recs.length), c.recs[i].fin ≠ 0 ∧ c.recs[i].fin ≤ c.recs[i + 1].beg
  busy : c.busy = lastOpen c.recs
theorem recOk.mono {id k k' : Int} {i : Nat} {r : RecdD} (h : recOk id k i r) (hk : k ≤ k') : recOk id k' i r := by
  obtain ⟨h1, h2, h3, h4, h5⟩ := h
  exact ⟨h1, h2, h3, by omega, by omega⟩
theorem OneInv.mono {c : ClD} {k k' : Int} (h : OneInv c k) (hk : k ≤ k') : OneInv c k' := ⟨h.made, fun i hi => (h.recs i hi).mono hk, h.order, h.busy⟩
theorem OneInv.same {c d : ClD} {k : Int} (h : OneInv c k) (h1 : d.made = c.made) (h2 : d.recs = c.recs) (h3 : d.busy = c.busy) (h4 : d.id = c.id) : OneInv d k := by
  obtain ⟨a, b, e, f⟩ := h
  refine ⟨?_, ?_, ?_, ?_⟩
  · rw [h1, h2]; exact a
  · intro i hi
    simp only [h2, h4] at hi ⊢
    exact b i hi
  · intro i hi
    simp only [h2] at hi ⊢
    exact e i hi
  · rw [h2, h3]; exact f
theorem lastOpen_snoc (l : List RecdD) (r : RecdD) : lastOpen (l ++ [r]) = (r.fin == 0) := by simp [lastOpen]
theorem OneInv.ended {c : ClD} {k : Int} (h : OneInv c k) (hb : c.busy = false) : ∀ (i : Nat) (h : i < c.recs.length), c.recs[i].fin ≠ 0 := by
  intro i hi
  rcases Nat.lt_or_ge (i + 1) c.recs.length with h1 | h1
  · exact (h.order i h1).1
  · have h2 := h.busy
    rw [hb] at h2
    have h3 : c.recs.getLast? = some c.recs[i] := by
      rw [List.getLast?_eq_getElem?, show c.recs.length - 1 = i by omega, List.getElem?_eq_getElem hi]
    unfold lastOpen at h2
    rw [h3] at h2
    simpa using h2.symm
theorem OneInv.next {c : ClD} {k step now : Int} (h : OneInv c k) (hb : c.busy = false) (hk : k ≤ step) (h1 : 1 ≤ step) : OneInv (c.next step now).1 step := by
  unfold ClD.next
  cases hp : c.parts with
  | nil => exact h.mono hk
  | cons p l =>
    have he := h.ended hb
    refine ⟨?_, fun i hi => ?_, fun i hi => ?_, ?_⟩
    · show c.made + 1 = ((c.recs ++ [_]).length : Nat)
      rw [h.made, List.length_append, List.length_singleton]
      omega
    · simp only [List.length_append, List.length_singleton] at hi
      simp only [List.getElem_append]
      split
      · rename_i hi2
        exact (h.recs i hi2).mono hk
      · rename_i hi2
        obtain rfl : i = c.recs.length := by omega
        simp only [Nat.sub_self, List.getElem_singleton]
        exact ⟨rfl, by show c.made + 1 = _; rw [h.made], h1, Int.le_refl _, .inl rfl⟩
    · simp only [List.length_append, List.length_singleton] at hi
      have hi1 : i < c.recs.length := by omega
      simp only [List.getElem_append, hi1, dif_pos]
      refine ⟨he i hi1, ?_⟩
      split
      · rename_i hi2
        exact (h.order i hi2).2
      · rename_i hi2
        simp only [List.getElem_singleton]
        have h5 := (h.recs i hi1).2.2.2.2
        have h6 := he i hi1
        show _ ≤ step
        omega
    · show true = lastOpen (c.recs ++ [_])
      rw [lastOpen_snoc]
      rfl
theorem ClD.ahead_keeps (c : ClD) (i : Int) : (c.ahead i).1.made = c.made ∧ (c.ahead i).1.recs = c.recs ∧ (c.ahead i).1.busy = c.busy ∧ (c.ahead i).1.id = c.id := by
  unfold ClD.ahead
  split <;> exact ⟨rfl, rfl, rfl, rfl⟩
theorem ClD.plan_keeps (c : ClD) (a : Ask) (x : Call) : (c.plan a x).1.made = c.made ∧ (c.plan a x).1.recs = c.recs ∧ (c.plan a x).1.busy = c.busy ∧ (c.plan a x).1.id = c.id := by
  unfold ClD.plan ClD.late
  repeat' split
  all_goals first
    | exact c.ahead_keeps _
    | exact ⟨rfl, rfl, rfl, rfl⟩
theorem OneInv.ask {c : ClD} {k step now : Int} (h : OneInv c k) (a : Ask) (hk : k ≤ step) (h1 : 1 ≤ step) : OneInv (c.ask a step now).1 step := by
  unfold ClD.ask
  split
  · exact h.mono hk
  · rename_i hb
    split
    · exact h.mono hk
    · obtain ⟨e1, e2, e3, e4⟩ := c.plan_keeps a (askedC a).1
      have hb2 : c.busy = false := by simpa using hb
      exact (h.same (d := { (c.plan a (askedC a).1).1 with parts := (c.plan a (askedC a).1).2.map fun p => { p with uid := a.uid, gid := a.gid } }) e1 e2 e3 e4).next (e3.trans hb2) hk h1
theorem OneInv.set_ {c : ClD} {k step : Int} (h : OneInv c k) (hb : c.busy = true) (d : RepD) (hk : k ≤ step) (h1 : 1 ≤ step) : OneInv { c with recs := lastSet c.recs step d, busy := false } step := by
  rcases List.eq_nil_or_concat c.recs with he | ⟨l, r, he⟩
  · have h2 := h.busy
    rw [hb, he] at h2
    cases h2
  obtain ⟨a, b, e, f⟩ := h
  rw [List.concat_eq_append] at he
  have hs : lastSet c.recs step d = l ++ [{ r with fin := step, rep := d }] := by
    rw [he]
    simp [lastSet]
  have hr := b l.length (by rw [he]; simp)
  simp only [he, List.getElem_append_right (Nat.le_refl _), Nat.sub_self, List.getElem_singleton] at hr
  refine ⟨?_, fun i hi => ?_, fun i hi => ?_, ?_⟩
  · show c.made = ((lastSet c.recs step d).length : Nat)
    rw [hs, a, he]
    simp
  · simp only [hs] at hi ⊢
    simp only [List.length_append, List.length_singleton] at hi
    simp only [List.getElem_append]
    split
    · rename_i hi2
      have h5 := b i (by rw [he]; simp; omega)
      simp only [he, List.getElem_append, hi2, dif_pos] at h5
      exact h5.mono hk
    · rename_i hi2
      obtain rfl : i = l.length := by omega
      simp only [Nat.sub_self, List.getElem_singleton]
      exact ⟨hr.1, hr.2.1, hr.2.2.1, Int.le_trans hr.2.2.2.1 hk, .inr ⟨Int.le_trans hr.2.2.2.1 hk, Int.le_refl _⟩⟩
  · simp only [hs] at hi ⊢
    simp only [List.length_append, List.length_singleton] at hi
    have hi1 : i < l.length := by omega
    have h5 := e i (by rw [he]; simp; omega)
    simp only [he, List.getElem_append, hi1, dif_pos] at h5 ⊢
    refine ⟨h5.1, ?_⟩
    have h6 := h5.2
    split
    · rename_i hi2
      simpa [hi2] using h6
    · rename_i hi2
      simpa [hi2] using h6
  · show false = lastOpen (lastSet c.recs step d)
    rw [hs, lastOpen_snoc]
    show false = (step == 0)
    have : step ≠ 0 := by omega
    simpa using this
theorem OneInv.take {c : ClD} {k step now : Int} (h : OneInv c k) (x : Packet) (hk : k ≤ step) (h1 : 1 ≤ step) : OneInv (c.take x step now).1 step := by
  unfold ClD.take
  split
  · exact h.mono hk
  · rename_i hb
    have hb2 : c.busy = true := by
      cases hc : c.busy
      · exact absurd (.inl hc) hb
      · rfl
    split
    · exact h.mono hk
    · split
      · exact h.mono hk
      · rename_i d hd
        have h5 := h.set_ hb2 (toldC d) hk h1
        simp only
        split
        · exact h5.same rfl rfl rfl rfl
        · split
          · exact (h5.same (d := ClD.put_ { c with recs := lastSet c.recs step (toldC d), busy := false } _ _) rfl rfl rfl rfl).next rfl (Int.le_refl _) h1
          · exact h5.next rfl (Int.le_refl _) h1
theorem OneInv.new (id self server : Int) (root : List UInt8) : OneInv (clNew id self server root) 0 :=
  ⟨rfl, fun _ hi => absurd hi (Nat.not_lt_zero _), fun _ hi => absurd hi (Nat.not_lt_zero _), rfl⟩
end Go.Proofs.YtfjflkmhhbhceaaGreatDoor
