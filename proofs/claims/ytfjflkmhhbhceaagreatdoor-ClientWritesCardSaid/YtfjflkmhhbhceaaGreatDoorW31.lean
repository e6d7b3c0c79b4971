/-
  Layer 33, plain: a client's calls are numbered from 1 on, and none begins ahead of the end of the one ahead of it. No condition.
-/
import Derived.Test.YtfjflkmhhbhceaaGreatDoorW30
import Derived.Test.YtfjflkmhhbhceaaGreatDoorW06
import Derived.Test.YtfjflkmhhbhceaaGreatDoorW23
import Derived.Test.YtfjflkmhhbhceaaGreatDoorW26
import Derived.Test.YtfjflkmhhbhceaaGreatDoorW19
import Derived.Test.YtfjflkmhhbhceaaGreatDoorW17
import Derived.Test.YtfjflkmhhbhceaaGreatDoorW25
namespace Go.Proofs.YtfjflkmhhbhceaaGreatDoor
open Go.RowKit

def lastOpen (l : List RecdD) : Bool := match l.getLast? with
  | none => false
  | some r => r.fin == 0
def recOk (id k : Int) (i : Nat) (r : RecdD) : Prop := r.cred.client = id ∧ r.cred.seq = i + 1 ∧ 1 ≤ r.beg ∧ r.beg ≤ k ∧ (r.fin = 0 ∨ (r.beg ≤ r.fin ∧ r.fin ≤ k))
/-- what holds of a client behind k steps -/
structure OneInv (c : ClD) (k : Int) : Prop where
  made : c.made = c.recs.length
  recs : ∀ (i : Nat) (h : i < c.recs.length), recOk c.id k i c.recs[i]
  order : ∀ (i : Nat) (h : i + 1 < c.recs.length), c.recs[i].fin ≠ 0 ∧ c.recs[i].fin ≤ c.recs[i + 1].beg
  busy : c.busy = lastOpen c.recs
theorem recOk.mono {id k k' : Int} {i : Nat} {r : RecdD} (h : recOk id k i r) (hk : k ≤ k') : recOk id k' i r := by
  obtain ⟨h1, h2, h3, h4, h5⟩ := h
  exact ⟨h1, h2, h3, by omega, by omega⟩
theorem OneInv.mono {c : ClD} {k k' : Int} (h : OneInv c k) (hk : k ≤ k') : OneInv c k' := ⟨h.made, fun i hi => (h.recs i hi).mono hk, h.order, h.busy⟩
theorem OneInv.same {c d : ClD} {k : Int} (h : OneInv c k) (h1 : d.made = c.made) (h2 : d.recs = c.recs) (h3 : d.busy = c.busy) (h4 : d.id = c.id) : OneInv d k := by
  obtain ⟨a, b, e, f⟩ := h
  refine ⟨?_, ?_, ?_, ?_⟩
  · rw [h1, h2]; exact a
  · intro i hi
    simp only [h2, h4] at hi ⊢
    exact b i hi
  · intro i hi
    simp only [h2] at hi ⊢
    exact e i hi
  · rw [h2, h3]; exact f
theorem lastOpen_snoc (l : List RecdD) (r : RecdD) : lastOpen (l ++ [r]) = (r.fin == 0) := by simp [lastOpen]
theorem OneInv.ended {c : ClD} {k : Int} (h : OneInv c k) (hb : c.busy = false) : ∀ (i : Nat) (h : i < c.recs.length), c.recs[i].fin ≠ 0 := by
  intro i hi
  rcases Nat.lt_or_ge (i + 1) c.recs.length with h1 | h1
  · exact (h.order i h1).1
  · have h2 := h.busy
    rw [hb] at h2
    have h3 : c.recs.getLast? = some c.recs[i] := by
      rw [List.getLast?_eq_getElem?, show c.recs.length - 1 = i by omega, List.getElem?_eq_getElem hi]
    unfold lastOpen at h2
    rw [h3] at h2
    simpa using h2.symm
theorem OneInv.next {c : ClD} {k step now : Int} (h : OneInv c k) (hb : c.busy = false) (hk : k ≤ step) (h1 : 1 ≤ step) : OneInv (c.next step now).1 step := by
  unfold ClD.next
  cases hp : c.parts with
  | nil => exact h.mono hk
  | cons p l =>
    have he := h.ended hb
    refine ⟨?_, fun i hi => ?_, fun i hi => ?_, ?_⟩
    · show c.made + 1 = ((c.recs ++ [_]).length : Nat)
      rw [h.made, List.length_append, List.length_singleton]
      omega
    · simp only [List.length_append, List.length_singleton] at hi
      simp only [List.getElem_append]
      split
      · rename_i hi2
        exact (h.recs i hi2).mono hk
      · rename_i hi2
        obtain rfl : i = c.recs.length := by omega
        simp only [Nat.sub_self, List.getElem_singleton]
        exact ⟨rfl, by show c.made + 1 = _; rw [h.made], h1, Int.le_refl _, .inl rfl⟩
    · simp only [List.length_append, List.length_singleton] at hi
      have hi1 : i < c.recs.length := by omega
      simp only [List.getElem_append, hi1, dif_pos]
      refine ⟨he i hi1, ?_⟩
      split
      · rename_i hi2
        exact (h.order i hi2).2
      · rename_i hi2
        simp only [List.getElem_singleton]
        have h5 := (h.recs i hi1).2.2.2.2
        have h6 := he i hi1
        show _ ≤ step
        omega
    · show true = lastOpen (c.recs ++ [_])
      rw [lastOpen_snoc]
      rfl
theorem ClD.ahead_keeps (c : ClD) (i : Int) : (c.ahead i).1.made = c.made ∧ (c.ahead i).1.recs = c.recs ∧ (c.ahead i).1.busy = c.busy ∧ (c.ahead i).1.id = c.id := by
  unfold ClD.ahead
  split <;> exact ⟨rfl, rfl, rfl, rfl⟩
theorem ClD.plan_keeps (c : ClD) (a : Ask) (x : Call) : (c.plan a x).1.made = c.made ∧ (c.plan a x).1.recs = c.recs ∧ (c.plan a x).1.busy = c.busy ∧ (c.plan a x).1.id = c.id := by
  unfold ClD.plan ClD.late
  repeat' split
  all_goals first
    | exact c.ahead_keeps _
    | exact ⟨rfl, rfl, rfl, rfl⟩
theorem OneInv.ask {c : ClD} {k step now : Int} (h : OneInv c k) (a : Ask) (hk : k ≤ step) (h1 : 1 ≤ step) : OneInv (c.ask a step now).1 step := by
  unfold ClD.ask
  split
  · exact h.mono hk
  · rename_i hb
    split
    · exact h.mono hk
    · obtain ⟨e1, e2, e3, e4⟩ := c.plan_keeps a (askedC a).1
      have hb2 : c.busy = false := by simpa using hb
      exact (h.same (d := { (c.plan a (askedC a).1).1 with parts := (c.plan a (askedC a).1).2.map fun p => { p with uid := a.uid, gid := a.gid } }) e1 e2 e3 e4).next (e3.trans hb2) hk h1
theorem OneInv.set_ {c : ClD} {k step : Int} (h : OneInv c k) (hb : c.busy = true) (d : RepD) (hk : k ≤ step) (h1 : 1 ≤ step) : OneInv { c with recs := lastSet c.recs step d, busy := false } step := by
  rcases List.eq_nil_or_concat c.recs with he | ⟨l, r, he⟩
  · have h2 := h.busy
    rw [hb, he] at h2
    cases h2
  obtain ⟨a, b, e, f⟩ := h
  rw [List.concat_eq_append] at he
  have hs : lastSet c.recs step d = l ++ [{ r with fin := step, rep := d }] := by
    rw [he]
    simp [lastSet]
  have hr := b l.length (by rw [he]; simp)
  simp only [he, List.getElem_append_right (Nat.le_refl _), Nat.sub_self, List.getElem_singleton] at hr
  refine ⟨?_, fun i hi => ?_, fun i hi => ?_, ?_⟩
  · show c.made = ((lastSet c.recs step d).length : Nat)
    rw [hs, a, he]
    simp
  · simp only [hs] at hi ⊢
    simp only [List.length_append, List.length_singleton] at hi
    simp only [List.getElem_append]
    split
    · rename_i hi2
      have h5 := b i (by rw [he]; simp; omega)
      simp only [he, List.getElem_append, hi2, dif_pos] at h5
      exact h5.mono hk
    · rename_i hi2
      obtain rfl : i = l.length := by omega
      simp only [Nat.sub_self, List.getElem_singleton]
      exact ⟨hr.1, hr.2.1, hr.2.2.1, Int.le_trans hr.2.2.2.1 hk, .inr ⟨Int.le_trans hr.2.2.2.1 hk, Int.le_refl _⟩⟩
  · simp only [hs] at hi ⊢
    simp only [List.length_append, List.length_singleton] at hi
    have hi1 : i < l.length := by omega
    have h5 := e i (by rw [he]; simp; omega)
    simp only [he, List.getElem_append, hi1, dif_pos] at h5 ⊢
    refine ⟨h5.1, ?_⟩
    have h6 := h5.2
    split
    · rename_i hi2
      simpa [hi2] using h6
    · rename_i hi2
      simpa [hi2] using h6
  · show false = lastOpen (lastSet c.recs step d)
    rw [hs, lastOpen_snoc]
    show false = (step == 0)
    have : step ≠ 0 := by omega
    simpa using this
theorem OneInv.take {c : ClD} {k step now : Int} (h : OneInv c k) (x : Packet) (hk : k ≤ step) (h1 : 1 ≤ step) : OneInv (c.take x step now).1 step := by
  unfold ClD.take
  split
  · exact h.mono hk
  · rename_i hb
    have hb2 : c.busy = true := by
      cases hc : c.busy
      · exact absurd (.inl hc) hb
      · rfl
    split
    · exact h.mono hk
    · split
      · exact h.mono hk
      · rename_i d hd
        have h5 := h.set_ hb2 (toldC d) hk h1
        simp only
        split
        · exact h5.same rfl rfl rfl rfl
        · split
          · exact (h5.same (d := ClD.put_ { c with recs := lastSet c.recs step (toldC d), busy := false } _ _) rfl rfl rfl rfl).next rfl (Int.le_refl _) h1
          · exact h5.next rfl (Int.le_refl _) h1
theorem OneInv.new (id self server : Int) (root : List UInt8) : OneInv (clNew id self server root) 0 :=
  ⟨rfl, fun _ hi => absurd hi (Nat.not_lt_zero _), fun _ hi => absurd hi (Nat.not_lt_zero _), rfl⟩
end Go.Proofs.YtfjflkmhhbhceaaGreatDoor

/-
  Layer 33, plain: the calls of a client that writes, reads and closes may be. Condition: what is asked lies within its bounds.
-/
namespace Go.Proofs.YtfjflkmhhbhceaaGreatDoor
open Go.RowKit

def writeC (h : List UInt8) (o : Int) (t : List UInt8) : Call := { callZ with proc := 7, fh := h, offset := o, data := t, how := 2 }
def readC (h : List UInt8) (o n : Int) : Call := { callZ with proc := 6, fh := h, offset := o, count := n }
def commitC (h : List UInt8) : Call := { callZ with proc := 21, fh := h }
theorem writeC_ok {h t : List UInt8} {o : Int} (hh : h.length ≤ 64) (ho : 0 ≤ o) (ht : t.length ≤ 256) : cCheck (writeC h o t) = 0 := by
  unfold cCheck
  rw [if_neg (by show ¬ cThere 7 = false; decide), if_pos]
  refine ⟨?_, rfl⟩
  show (decide (h.length ≤ 64) && (decide (0 ≤ o) && ((decide ((0 : Int) ≤ 2) && decide ((2 : Int) ≤ 4294967295)) && (decide (t.length ≤ 256) && true)))) = true
  simp [hh, ho, ht]
theorem readC_ok {h : List UInt8} {o n : Int} (hh : h.length ≤ 64) (ho : 0 ≤ o) (h0 : 0 ≤ n) (hn : n ≤ 4294967295) : cCheck (readC h o n) = 0 := by
  unfold cCheck
  rw [if_neg (by show ¬ cThere 6 = false; decide), if_pos]
  refine ⟨?_, rfl⟩
  show (decide (h.length ≤ 64) && (decide (0 ≤ o) && ((decide (0 ≤ n) && decide (n ≤ 4294967295)) && true))) = true
  simp [hh, ho, h0, hn]
theorem commitC_ok {h : List UInt8} (hh : h.length ≤ 64) : cCheck (commitC h) = 0 := by
  unfold cCheck
  rw [if_neg (by show ¬ cThere 21 = false; decide), if_pos]
  refine ⟨?_, rfl⟩
  show (decide (h.length ≤ 64) && (decide ((0 : Int) ≤ 0) && ((decide ((0 : Int) ≤ 0) && decide ((0 : Int) ≤ 4294967295)) && true))) = true
  simp [hh]
/-- the calls that such a client makes: at place 1, of no one -/
def partW (p : CPart) : Prop := p.dir = 1 ∧ p.uid = 0 ∧ p.gid = 0 ∧ p.put = -1 ∧
  ((∃ o t, p.c = writeC [] o t ∧ 0 ≤ o ∧ o ≤ 1024 ∧ t.length ≤ 256) ∨ (∃ o n, p.c = readC [] o n ∧ 0 ≤ o ∧ o ≤ 1024 ∧ 0 ≤ n ∧ n ≤ 4294967295) ∨ p.c = commitC [])
theorem sends_write {c : ClD} {p : CPart} {o : Int} {t : List UInt8} (h : p.c = writeC [] o t) (hd : p.dir = 1) : c.sends p = writeC (c.at_ 1).handle o t := by
  unfold ClD.sends
  rw [h, hd]
  rfl
theorem sends_read {c : ClD} {p : CPart} {o n : Int} (h : p.c = readC [] o n) (hd : p.dir = 1) : c.sends p = readC (c.at_ 1).handle o n := by
  unfold ClD.sends
  rw [h, hd]
  rfl
theorem sends_commit {c : ClD} {p : CPart} (h : p.c = commitC []) (hd : p.dir = 1) : c.sends p = commitC (c.at_ 1).handle := by
  unfold ClD.sends
  rw [h, hd]
  rfl
theorem sends_ok {c : ClD} {p : CPart} (h : partW p) (hh : (c.at_ 1).handle.length ≤ 64) : cCheck (c.sends p) = 0 ∧ (c.sends p).proc = p.c.proc ∧ (c.sends p).offset = p.c.offset ∧ (c.sends p).data = p.c.data := by
  obtain ⟨hd, -, -, -, ⟨o, t, e, h1, -, h2⟩ | ⟨o, n, e, h1, -, h2, h3⟩ | e⟩ := h
  · rw [sends_write e hd, e]
    exact ⟨writeC_ok hh h1 h2, rfl, rfl, rfl⟩
  · rw [sends_read e hd, e]
    exact ⟨readC_ok hh h1 h2 h3, rfl, rfl, rfl⟩
  · rw [sends_commit e hd, e]
    exact ⟨commitC_ok hh, rfl, rfl, rfl⟩
/-- what a file is, when a call of such a client is done -/
def doneW (d : List UInt8) (p : CPart) : List UInt8 := if p.c.proc = 7 then (nWrite d p.c.offset p.c.data).1 else d
def countW (n : Nat) (p : CPart) : Nat := if p.c.proc = 7 then n + p.c.data.length else n
/-- what a file will be, when what waits at a place is written -/
def soon (d : List UInt8) (p : CPlace) : List UInt8 := if p.bytes = [] then d else (nWrite d p.at_ p.bytes).1
/-- what waits lies within a file -/
def waitsOk (p : CPlace) : Prop := p.bytes.length ≤ 256 ∧ (p.bytes ≠ [] → 0 ≤ p.at_ ∧ p.at_ + p.bytes.length ≤ 1024)
/-- what is to be written later is written as if when it was asked -/
theorem late_soon {d : List UInt8} {p : CPlace} {o : Int} {t : List UInt8} (hp : waitsOk p) (ht : t ≠ []) (h1 : o + t.length ≤ 1024) (hj : p.bytes ≠ []) (ho : o - p.at_ = p.bytes.length) :
    soon d { p with bytes := p.bytes ++ t } = (nWrite (soon d p) o t).1 := by
  obtain ⟨h2, h3⟩ := hp.2 hj
  obtain ⟨n, hn⟩ : ∃ n : Nat, p.at_ = n := ⟨p.at_.toNat, by omega⟩
  have e : o = ((n + p.bytes.length : Nat) : Int) := by omega
  unfold soon
  rw [if_neg hj, if_neg (show ¬ p.bytes ++ t = [] by simp [hj]), e, hn]
  exact (nWrite_join hj ht (by omega)).symm
/-- results that tell that all is well, and no more, as they are laid -/
def zeroBody (p : Int) : List UInt8 := num 0 4 ++ pLaid repD0 (pFields p true) (pFields p true).length
theorem pGet_zero1 : ∀ p ∈ [(6 : Int), 7, 21], (pGet p (zeroBody p)).map (fun d => (d.f, d.es, d.us)) = some (fldsZ, [], []) := by decide +kernel
theorem pGet_zero {p : Int} (h : p = 6 ∨ p = 7 ∨ p = 21) : pGet p (zeroBody p) = some repD0 := by
  have h1 := pGet_zero1 p (by rcases h with rfl | rfl | rfl <;> simp)
  cases hd : pGet p (zeroBody p) with
  | none => rw [hd] at h1; cases h1
  | some d =>
    rw [hd] at h1
    obtain ⟨f, es, us⟩ := d
    simp only [Option.map_some, Option.some.injEq, Prod.mk.injEq] at h1
    obtain ⟨rfl, rfl, rfl⟩ := h1
    rfl
theorem zeroBody_len : ∀ p ∈ [(6 : Int), 7, 21], (zeroBody p).length ≤ 600 ∧ (zeroBody p).length % 4 = 0 := by decide +kernel
end Go.Proofs.YtfjflkmhhbhceaaGreatDoor


/-
  Layer 33, plain: a client whose calls are all answered well has done all that it was asked. Condition: what it sends is read as it was laid (Faith).
-/
namespace Go.Proofs.YtfjflkmhhbhceaaGreatDoor
open Go.RowKit

/-- the answer to a message, as the law lays it -/
def ansM (m : Message) : Message := ⟨m.xid, true, false, 0, cred0, 0, zeroBody m.proc⟩
/-- what a client sends is answered well, on and on (rd: what bytes say; an: an answer's bytes) -/
def answeredC (rd : List UInt8 → Option (Message × Call)) (an : Message → List UInt8) : Nat → ClD → List Packet → List UInt8 → Nat → ClD × List UInt8 × Nat × Bool
  | 0, c, out, d, n => (c, d, n, out.isEmpty)
  | _ + 1, c, [], d, n => (c, d, n, true)
  | k + 1, c, p :: l, d, n => match rd p.data with
    | none => (c, [], 0, false)
    | some (m, x) =>
      if l ≠ [] then (c, [], 0, false)
      else answeredC rd an k (c.take ⟨1, 5, an m⟩ 1 0).1 (c.take ⟨1, 5, an m⟩ 1 0).2 (if m.proc = 7 then (nWrite d x.offset x.data).1 else d) (if m.proc = 7 then n + x.data.length else n)
/-- what such a client sends is read as it was laid, and so are the answers -/
def Faith (rd : List UInt8 → Option (Message × Call)) (an : Message → List UInt8) : Prop :=
  ∀ (c : ClD) (p : CPart), partW p → (c.at_ 1).handle.length ≤ 64 → c.id = 1 → 0 ≤ c.made → c.made + 1 ≤ 4294967295 →
    rd (putBytes (c.message p)) = some (c.message p, c.sends p) ∧ getM9 (an (c.message p)) = (ansM (c.message p), 0)
theorem take_zero {c : ClD} {x : Packet} {m : Message} (hb : c.busy = true) (hx : x.from_ = c.server) (hm : getM9 x.data = (m, 0)) (ha : m.answer = true) (hi : m.xid = c.made) (hc : m.accept = 0) (hp : pGet c.now.c.proc m.body = some repD0) :
    c.take x 1 0 = ({ c with recs := lastSet c.recs 1 (toldC repD0), busy := false } : ClD).next 1 0 := by
  unfold ClD.take
  rw [if_neg (by simp [hb, hx, timedC]), hm, if_neg (by simp [ha, hi, hc])]
  simp only [hp]
  rw [if_neg (show ¬ repD0.f.status ≠ 0 by decide), if_neg (show ¬ (c.now.put ≠ -1 ∧ repD0.f.fh ≠ [] ∧ repD0.f.obj.is = true) from fun h => h.2.1 rfl)]
theorem partW.proc {p : CPart} (h : partW p) : p.c.proc = 6 ∨ p.c.proc = 7 ∨ p.c.proc = 21 := by
  obtain ⟨-, -, -, -, ⟨o, t, e, -⟩ | ⟨o, n, e, -⟩ | e⟩ := h
  · exact .inr (.inl (by rw [e]; rfl))
  · exact .inl (by rw [e]; rfl)
  · exact .inr (.inr (by rw [e]; rfl))
/-- what stays while such a client's calls are answered -/
structure Stays33 (c d : ClD) : Prop where
  ids : d.id = c.id ∧ d.self = c.self ∧ d.server = c.server
  ps : d.ps = c.ps
theorem runs {rd : List UInt8 → Option (Message × Call)} {an : Message → List UInt8} (hF : Faith rd an) : ∀ (l : List CPart) (c : ClD) (k : Nat) (d : List UInt8) (n : Nat) (s now : Int), l.length ≤ k → c.busy = false → c.parts = l → c.id = 1 → c.server = 1 → (∀ p ∈ l, partW p) → (c.at_ 1).handle.length ≤ 64 → 0 ≤ c.made → c.made + l.length ≤ 4294967295 →
    ∃ c', answeredC rd an k (c.next s now).1 (c.next s now).2 d n = (c', l.foldl doneW d, l.foldl countW n, true) ∧ c'.busy = false ∧ c'.parts = [] ∧ c'.made = c.made + l.length ∧ Stays33 c c'
  | [], c, k, d, n, s, now, _, hb, hp, _, _, _, _, _, _ => by
    have e : c.next s now = (c, []) := by unfold ClD.next; rw [hp]
    rw [e]
    refine ⟨c, ?_, hb, hp, by simp, ⟨rfl, rfl, rfl⟩, rfl⟩
    cases k <;> rfl
  | p :: l, c, 0, d, n, s, now, hk, _, _, _, _, _, _, _, _ => absurd hk (by simp)
  | p :: l, c, k + 1, d, n, s, now, hk, hb, hp, hid, hsv, hW, hh, hm0, hm1 => by
    have hpw := hW p List.mem_cons_self
    rw [List.length_cons] at hm1 hk
    obtain ⟨f1, f2⟩ := hF c p hpw hh hid hm0 (by omega)
    have hs := sends_ok hpw hh (c := c)
    have e : c.next s now = ({ c with parts := l, now := p, busy := true, sent := c.packet p, due := now + 8, made := c.made + 1, recs := c.recs ++ [⟨c.cred p, s, 0, c.tells p, repD0⟩] }, [c.packet p]) := by unfold ClD.next; rw [hp]
    rw [e]
    simp only [answeredC]
    rw [show (c.packet p).data = putBytes (c.message p) from rfl, f1]
    simp only [ne_eq, not_true_eq_false, if_false]
    have hz := pGet_zero hpw.proc
    rw [take_zero (c := { c with parts := l, now := p, busy := true, sent := c.packet p, due := now + 8, made := c.made + 1, recs := c.recs ++ [⟨c.cred p, s, 0, c.tells p, repD0⟩] }) (x := ⟨1, 5, an (c.message p)⟩) (m := ansM (c.message p)) rfl hsv.symm f2 rfl rfl rfl hz]
    obtain ⟨c', h1, h2, h3, h4, h5⟩ := runs hF l { c with parts := l, now := p, busy := false, sent := c.packet p, due := now + 8, made := c.made + 1, recs := lastSet (c.recs ++ [⟨c.cred p, s, 0, c.tells p, repD0⟩]) 1 (toldC repD0) } k (doneW d p) (countW n p) 1 0 (by omega) rfl rfl hid hsv (fun q hq => hW q (List.mem_cons_of_mem _ hq)) hh (by show 0 ≤ c.made + 1; omega) (by show c.made + 1 + _ ≤ _; omega)
    refine ⟨c', ?_, h2, h3, ?_, h5.ids, h5.ps⟩
    · rw [List.foldl_cons, List.foldl_cons, ← h1, show (c.message p).proc = p.c.proc from rfl, hs.2.2.1, hs.2.2.2]
      rfl
    · rw [h4, List.length_cons]
      show c.made + 1 + _ = _
      omega
end Go.Proofs.YtfjflkmhhbhceaaGreatDoor


/-
  Layer 33, plain: whatever such a client is asked to write, read and close, a file is as if each had been written when it was asked. Condition: Faith; what is asked lies within its bounds.
-/
namespace Go.Proofs.YtfjflkmhhbhceaaGreatDoor
open Go.RowKit

/-- what holds between two things that are asked -/
structure WInv (c : ClD) (got want : List UInt8) (written asked k : Nat) : Prop where
  idle : c.busy = false
  parts : c.parts = []
  id : c.id = 1
  server : c.server = 1
  len : c.ps.length = 4
  handle : (c.at_ 1).handle.length ≤ 64
  waits : waitsOk (c.at_ 1)
  want : want = soon got (c.at_ 1)
  cnt : asked = written + (c.at_ 1).bytes.length
  made : 0 ≤ c.made ∧ c.made ≤ 2 * k
theorem at_put {c : ClD} (h : c.ps.length = 4) (p : CPlace) : (c.put_ 1 p).at_ 1 = p := by
  unfold ClD.put_ ClD.at_
  show (c.ps.set 1 p).getD 1 placeZ33 = p
  rw [List.getD_eq_getElem?_getD, List.getElem?_set_self (by omega)]
  rfl
def who0 (p : CPart) : CPart := { p with uid := 0, gid := 0 }
theorem next_of {rd : List UInt8 → Option (Message × Call)} {an : Message → List UInt8} (hF : Faith rd an) {c : ClD} {l : List CPart} {got : List UInt8} {n : Nat} {step now : Int} (hp : c.parts = l) (hb : c.busy = false) (hid : c.id = 1) (hsv : c.server = 1) (hW : ∀ p ∈ l, partW p) (hh : (c.at_ 1).handle.length ≤ 64) (hm0 : 0 ≤ c.made) (hm1 : c.made + 2 ≤ 4294967295) (hl : l.length ≤ 2) :
    ∃ c', answeredC rd an 6 (c.next step now).1 (c.next step now).2 got n = (c', l.foldl doneW got, l.foldl countW n, true) ∧ c'.busy = false ∧ c'.parts = [] ∧ c'.made = c.made + l.length ∧ Stays33 c c' :=
  runs hF l c 6 got n step now (by omega) hb hp hid hsv hW hh hm0 (by omega)
theorem partW_write {o : Int} {t : List UInt8} (h0 : 0 ≤ o) (h1 : o ≤ 1024) (ht : t.length ≤ 256) : partW ⟨writeC [] o t, 1, 0, -1, 0, 0⟩ := ⟨rfl, rfl, rfl, rfl, .inl ⟨o, t, rfl, h0, h1, ht⟩⟩
theorem partW_read {o n : Int} (h0 : 0 ≤ o) (h3 : o ≤ 1024) (h1 : 0 ≤ n) (h2 : n ≤ 4294967295) : partW ⟨readC [] o n, 1, 0, -1, 0, 0⟩ := ⟨rfl, rfl, rfl, rfl, .inr (.inl ⟨o, n, rfl, h0, h3, h1, h2⟩)⟩
theorem partW_commit : partW ⟨commitC [], 1, 0, -1, 0, 0⟩ := ⟨rfl, rfl, rfl, rfl, .inr (.inr rfl)⟩
/-- what waits is written, and one call more that writes nothing -/
theorem flush {rd : List UInt8 → Option (Message × Call)} {an : Message → List UInt8} (hF : Faith rd an) {c : ClD} {got want : List UInt8} {written asked k : Nat} (h : WInv c got want written asked k) (hk : k ≤ 100) (x : Call) (hx : partW ⟨x, 1, 0, -1, 0, 0⟩) (h7 : x.proc ≠ 7) (step now : Int) :
    let q := c.ahead 1
    let c1 : ClD := { q.1 with parts := (q.2 ++ [(⟨x, 1, 0, -1, 0, 0⟩ : CPart)]).map who0 }
    ∃ c', answeredC rd an 6 (c1.next step now).1 (c1.next step now).2 got 0 = (c', want, asked - written, true) ∧ WInv c' want want asked asked (k + 1) ∧ (c'.at_ 1).bytes = [] := by
  intro q c1
  obtain ⟨hb, hp, hid, hsv, hlen, hh, hwt, hwant, hcnt, hm⟩ := h
  by_cases he : (c.at_ 1).bytes = []
  · have hq : q = (c, []) := if_pos he
    have hc1 : c1 = { c with parts := [⟨x, 1, 0, -1, 0, 0⟩] } := by show ({ q.1 with parts := (q.2 ++ _).map who0 } : ClD) = _; rw [hq]; rfl
    rw [hc1]
    obtain ⟨c', h1, h2, h3, h4, h5⟩ := next_of hF (c := { c with parts := [⟨x, 1, 0, -1, 0, 0⟩] }) (got := got) (n := 0) (step := step) (now := now) rfl hb hid hsv (fun p hp => by rw [List.mem_singleton] at hp; subst hp; exact hx) hh hm.1 (by show c.made + 2 ≤ _; omega) (by simp)
    have ha : c'.at_ 1 = c.at_ 1 := by unfold ClD.at_; rw [h5.ps]
    have hs : soon got (c.at_ 1) = got := if_pos he
    have hw : want = got := hwant.trans hs
    have hd : doneW got ⟨x, 1, 0, -1, 0, 0⟩ = want := by rw [hw]; exact if_neg h7
    have hcn : countW 0 (⟨x, 1, 0, -1, 0, 0⟩ : CPart) = asked - written := by rw [show countW 0 (⟨x, 1, 0, -1, 0, 0⟩ : CPart) = 0 from if_neg h7]; rw [he] at hcnt; simp at hcnt; omega
    refine ⟨c', ?_, ⟨h2, h3, h5.ids.1.trans hid, h5.ids.2.2.trans hsv, by rw [h5.ps]; exact hlen, by rw [ha]; exact hh, by rw [ha]; exact hwt, ?_, ?_, ?_⟩, by rw [ha]; exact he⟩
    · rw [h1]
      simp only [List.foldl_cons, List.foldl_nil]
      rw [hd, hcn]
    · rw [ha]; exact (if_pos he).symm
    · rw [ha, he]; rfl
    · rw [h4]
      show 0 ≤ c.made + ((1 : Nat) : Int) ∧ c.made + ((1 : Nat) : Int) ≤ _
      omega
  · obtain ⟨hw1, hw2⟩ := hwt.2 he
    have hq : q = (c.put_ 1 { c.at_ 1 with at_ := 0, bytes := [] }, [⟨writeC [] (c.at_ 1).at_ (c.at_ 1).bytes, 1, 0, -1, 0, 0⟩]) := if_neg he
    have hc1 : c1 = { c.put_ 1 { c.at_ 1 with at_ := 0, bytes := [] } with parts := [⟨writeC [] (c.at_ 1).at_ (c.at_ 1).bytes, 1, 0, -1, 0, 0⟩, ⟨x, 1, 0, -1, 0, 0⟩] } := by show ({ q.1 with parts := (q.2 ++ _).map who0 } : ClD) = _; rw [hq]; rfl
    rw [hc1]
    have hap := at_put hlen { c.at_ 1 with at_ := 0, bytes := [] }
    obtain ⟨c', h1, h2, h3, h4, h5⟩ := next_of hF (c := { c.put_ 1 { c.at_ 1 with at_ := 0, bytes := [] } with parts := [⟨writeC [] (c.at_ 1).at_ (c.at_ 1).bytes, 1, 0, -1, 0, 0⟩, ⟨x, 1, 0, -1, 0, 0⟩] }) (got := got) (n := 0) (step := step) (now := now) rfl hb hid hsv (fun p hp => by
      simp only [List.mem_cons, List.not_mem_nil, or_false] at hp
      rcases hp with rfl | rfl
      · exact partW_write hw1 (by omega) hwt.1
      · exact hx) (by show ((c.put_ 1 { c.at_ 1 with at_ := 0, bytes := [] }).at_ 1).handle.length ≤ 64; rw [hap]; exact hh) hm.1 (by show c.made + 2 ≤ _; omega) (by simp)
    have ha : c'.at_ 1 = { c.at_ 1 with at_ := 0, bytes := [] } := by
      refine Eq.trans ?_ hap
      unfold ClD.at_
      rw [h5.ps]
      rfl
    have hs : soon got (c.at_ 1) = (nWrite got (c.at_ 1).at_ (c.at_ 1).bytes).1 := if_neg he
    have hd : doneW (doneW got ⟨writeC [] (c.at_ 1).at_ (c.at_ 1).bytes, 1, 0, -1, 0, 0⟩) ⟨x, 1, 0, -1, 0, 0⟩ = want := by
      rw [hwant, hs]
      exact if_neg h7
    have hcn : countW (countW 0 (⟨writeC [] (c.at_ 1).at_ (c.at_ 1).bytes, 1, 0, -1, 0, 0⟩ : CPart)) (⟨x, 1, 0, -1, 0, 0⟩ : CPart) = asked - written := by
      rw [show ∀ n, countW n (⟨x, 1, 0, -1, 0, 0⟩ : CPart) = n from fun n => if_neg h7]
      show 0 + (c.at_ 1).bytes.length = _
      omega
    refine ⟨c', ?_, ⟨h2, h3, h5.ids.1.trans hid, h5.ids.2.2.trans hsv, by rw [h5.ps]; show (c.ps.set _ _).length = 4; rw [List.length_set]; exact hlen, by rw [ha]; exact hh, by rw [ha]; exact ⟨Nat.zero_le _, fun h => absurd rfl h⟩, ?_, ?_, ?_⟩, by rw [ha]⟩
    · rw [h1]
      simp only [List.foldl_cons, List.foldl_nil]
      rw [hd, hcn]
    · rw [ha]; exact (if_pos rfl).symm
    · rw [ha]; rfl
    · rw [h4]
      show 0 ≤ c.made + ((2 : Nat) : Int) ∧ c.made + ((2 : Nat) : Int) ≤ _
      omega
end Go.Proofs.YtfjflkmhhbhceaaGreatDoor


/-
  Layer 33, plain: such a client is asked to read, to close, to write. Condition: Faith; what is asked lies within its bounds.
-/
namespace Go.Proofs.YtfjflkmhhbhceaaGreatDoor
open Go.RowKit

def askW (kind : Int) (x : Call) : Ask := ⟨kind, 1, 0, 0, 0, 0, x⟩
theorem ask_quiet {c : ClD} {x : Call} {kind step : Int} (hb : c.busy = false) (hs : 1 ≤ step) (hk : kind = 2 ∨ kind = 4) (hok : cCheck (askedC (askW kind x)).1 = 0) :
    c.ask (askW kind x) step 0 = ((({ (c.ahead 1).1 with parts := ((c.ahead 1).2 ++ [(⟨(askedC (askW kind x)).1, 1, 0, -1, 0, 0⟩ : CPart)]).map who0 } : ClD).next step 0).1, (({ (c.ahead 1).1 with parts := ((c.ahead 1).2 ++ [(⟨(askedC (askW kind x)).1, 1, 0, -1, 0, 0⟩ : CPart)]).map who0 } : ClD).next step 0).2, 0) := by
  have hm : mayAsk (askW kind x) step 0 = true := by
    unfold mayAsk
    rw [hok]
    rcases hk with rfl | rfl <;> simp [askedC, askW, timedC, placeC, whoC, hs]
  unfold ClD.ask
  rw [hb, hm]
  rcases hk with rfl | rfl <;> rfl
theorem ask_writes {c : ClD} {x : Call} {step : Int} (hb : c.busy = false) (hs : 1 ≤ step) (h0 : 0 ≤ x.offset) (h1 : x.data.length ≤ 256) :
    c.ask (askW 3 x) step 0 = ((({ (c.late 1 (writeC [] x.offset x.data)).1 with parts := (c.late 1 (writeC [] x.offset x.data)).2.map who0 } : ClD).next step 0).1, (({ (c.late 1 (writeC [] x.offset x.data)).1 with parts := (c.late 1 (writeC [] x.offset x.data)).2.map who0 } : ClD).next step 0).2, 0) := by
  have hok : cCheck (askedC (askW 3 x)).1 = 0 := writeC_ok (h := []) (Nat.zero_le _) h0 h1
  have hm : mayAsk (askW 3 x) step 0 = true := by
    unfold mayAsk
    rw [hok]
    simp [askedC, askW, timedC, placeC, whoC, hs]
  unfold ClD.ask
  rw [hb, hm]
  rfl
/-- what is asked to be written is as good as written -/
theorem wrote {rd : List UInt8 → Option (Message × Call)} {an : Message → List UInt8} (hF : Faith rd an) {c : ClD} {got want : List UInt8} {written asked k : Nat} (h : WInv c got want written asked k) (hk : k ≤ 100) (o : Int) (t : List UInt8) (h0 : 0 ≤ o) (h1 : o + t.length ≤ 1024) (h2 : t.length ≤ 256) (step now : Int) :
    let c1 : ClD := { (c.late 1 (writeC [] o t)).1 with parts := (c.late 1 (writeC [] o t)).2.map who0 }
    ∃ c' got' n, answeredC rd an 6 (c1.next step now).1 (c1.next step now).2 got 0 = (c', got', n, true) ∧ WInv c' got' (nWrite want o t).1 (written + n) (asked + t.length) (k + 1) := by
  intro c1
  obtain ⟨hb, hp, hid, hsv, hlen, hh, hwt, hwant, hcnt, hm⟩ := h
  have hn0 : ∀ d : List UInt8, nWrite d o [] = (d, 0) := fun d => by
    unfold nWrite
    rw [if_neg (by omega), if_pos rfl]
  by_cases ht : t = []
  · subst ht
    have hq : c.late 1 (writeC [] o []) = (c, []) := if_pos rfl
    have hc1 : c1 = { c with parts := [] } := by show ({ (c.late 1 (writeC [] o [])).1 with parts := (c.late 1 (writeC [] o [])).2.map who0 } : ClD) = _; rw [hq]; rfl
    have hce : ({ c with parts := [] } : ClD) = c := by rw [← hp]
    rw [hc1, hce, show c.next step now = (c, []) by unfold ClD.next; rw [hp]]
    refine ⟨c, got, 0, rfl, hb, hp, hid, hsv, hlen, hh, hwt, ?_, ?_, by omega⟩
    · rw [hn0]; exact hwant
    · simpa using hcnt
  by_cases hj : (c.at_ 1).bytes ≠ [] ∧ o - (c.at_ 1).at_ = (c.at_ 1).bytes.length ∧ (c.at_ 1).bytes.length + t.length ≤ 256
  · have hq : c.late 1 (writeC [] o t) = (c.put_ 1 { c.at_ 1 with bytes := (c.at_ 1).bytes ++ t }, []) := (if_neg ht).trans (if_pos hj)
    have hc1 : c1 = { c.put_ 1 { c.at_ 1 with bytes := (c.at_ 1).bytes ++ t } with parts := [] } := by show ({ (c.late 1 (writeC [] o t)).1 with parts := (c.late 1 (writeC [] o t)).2.map who0 } : ClD) = _; rw [hq]; rfl
    have ha := at_put hlen { c.at_ 1 with bytes := (c.at_ 1).bytes ++ t }
    obtain ⟨hw1, hw2⟩ := hwt.2 hj.1
    rw [hc1]
    refine ⟨{ c.put_ 1 { c.at_ 1 with bytes := (c.at_ 1).bytes ++ t } with parts := [] }, got, 0, rfl, hb, rfl, hid, hsv, by show (c.ps.set _ _).length = 4; rw [List.length_set]; exact hlen, ?_, ?_, ?_, ?_, by show 0 ≤ c.made ∧ c.made ≤ _; omega⟩
    · show ((c.put_ 1 { c.at_ 1 with bytes := (c.at_ 1).bytes ++ t }).at_ 1).handle.length ≤ 64
      rw [ha]; exact hh
    · show waitsOk ((c.put_ 1 { c.at_ 1 with bytes := (c.at_ 1).bytes ++ t }).at_ 1)
      rw [ha]
      refine ⟨by show ((c.at_ 1).bytes ++ t).length ≤ 256; rw [List.length_append]; exact hj.2.2, fun _ => ⟨hw1, ?_⟩⟩
      show (c.at_ 1).at_ + (((c.at_ 1).bytes ++ t).length : Nat) ≤ 1024
      rw [List.length_append]
      omega
    · show _ = soon got ((c.put_ 1 { c.at_ 1 with bytes := (c.at_ 1).bytes ++ t }).at_ 1)
      rw [ha, hwant]
      exact (late_soon hwt ht h1 hj.1 hj.2.1).symm
    · show _ = _ + ((c.put_ 1 { c.at_ 1 with bytes := (c.at_ 1).bytes ++ t }).at_ 1).bytes.length
      rw [ha]
      show _ = _ + ((c.at_ 1).bytes ++ t).length
      rw [List.length_append]
      omega
  have hs2 : ∀ d : List UInt8, soon d { c.at_ 1 with at_ := o, bytes := t } = (nWrite d o t).1 := fun d => if_neg ht
  have hw' : waitsOk { c.at_ 1 with at_ := o, bytes := t } := ⟨h2, fun _ => ⟨h0, h1⟩⟩
  by_cases he : (c.at_ 1).bytes = []
  · have hq : c.late 1 (writeC [] o t) = (c.put_ 1 { c.at_ 1 with at_ := o, bytes := t }, []) := by
      refine ((if_neg ht).trans (if_neg hj)).trans ?_
      rw [show c.ahead 1 = (c, []) from if_pos he]
      rfl
    have hc1 : c1 = { c.put_ 1 { c.at_ 1 with at_ := o, bytes := t } with parts := [] } := by show ({ (c.late 1 (writeC [] o t)).1 with parts := (c.late 1 (writeC [] o t)).2.map who0 } : ClD) = _; rw [hq]; rfl
    have ha := at_put hlen { c.at_ 1 with at_ := o, bytes := t }
    rw [hc1]
    refine ⟨{ c.put_ 1 { c.at_ 1 with at_ := o, bytes := t } with parts := [] }, got, 0, rfl, hb, rfl, hid, hsv, by show (c.ps.set _ _).length = 4; rw [List.length_set]; exact hlen, ?_, ?_, ?_, ?_, by show 0 ≤ c.made ∧ c.made ≤ _; omega⟩
    · show ((c.put_ 1 { c.at_ 1 with at_ := o, bytes := t }).at_ 1).handle.length ≤ 64
      rw [ha]; exact hh
    · show waitsOk ((c.put_ 1 { c.at_ 1 with at_ := o, bytes := t }).at_ 1)
      rw [ha]; exact hw'
    · show _ = soon got ((c.put_ 1 { c.at_ 1 with at_ := o, bytes := t }).at_ 1)
      rw [ha, hs2, hwant, show soon got (c.at_ 1) = got from if_pos he]
    · show _ = _ + ((c.put_ 1 { c.at_ 1 with at_ := o, bytes := t }).at_ 1).bytes.length
      rw [ha]
      rw [he] at hcnt
      simp at hcnt
      show _ = _ + t.length
      omega
  · obtain ⟨hw1, hw2⟩ := hwt.2 he
    obtain ⟨w, hwd⟩ : ∃ w : CPart, w = ⟨writeC [] (c.at_ 1).at_ (c.at_ 1).bytes, 1, 0, -1, 0, 0⟩ := ⟨_, rfl⟩
    have hwp : partW w := by rw [hwd]; exact partW_write hw1 (by omega) hwt.1
    have hq : c.late 1 (writeC [] o t) = ((c.put_ 1 { c.at_ 1 with at_ := 0, bytes := [] }).put_ 1 { c.at_ 1 with at_ := o, bytes := t }, [w]) := by
      refine ((if_neg ht).trans (if_neg hj)).trans ?_
      rw [show c.ahead 1 = (c.put_ 1 { c.at_ 1 with at_ := 0, bytes := [] }, [w]) from (if_neg he).trans (by rw [hwd]; rfl)]
      rfl
    obtain ⟨c2, hc2⟩ : ∃ c2, c2 = (c.put_ 1 { c.at_ 1 with at_ := 0, bytes := [] }).put_ 1 { c.at_ 1 with at_ := o, bytes := t } := ⟨_, rfl⟩
    have hl2 : (c.put_ 1 { c.at_ 1 with at_ := 0, bytes := [] }).ps.length = 4 := by show (c.ps.set _ _).length = 4; rw [List.length_set]; exact hlen
    have hl3 : c2.ps.length = 4 := by rw [hc2]; show ((c.put_ 1 { c.at_ 1 with at_ := 0, bytes := [] }).ps.set _ _).length = 4; rw [List.length_set]; exact hl2
    have ha : c2.at_ 1 = { c.at_ 1 with at_ := o, bytes := t } := by rw [hc2]; exact at_put hl2 _
    have hf : c2.busy = false ∧ c2.id = 1 ∧ c2.server = 1 ∧ c2.made = c.made := by rw [hc2]; exact ⟨hb, hid, hsv, rfl⟩
    have hc1 : c1 = { c2 with parts := [w] } := by
      show ({ (c.late 1 (writeC [] o t)).1 with parts := (c.late 1 (writeC [] o t)).2.map who0 } : ClD) = _
      rw [hq, ← hc2, hwd]
      rfl
    rw [hc1]
    obtain ⟨c', e1, e2, e3, e4, e5⟩ := next_of hF (c := { c2 with parts := [w] }) (got := got) (n := 0) (step := step) (now := now) rfl hf.1 hf.2.1 hf.2.2.1 (fun p hp => by rw [List.mem_singleton] at hp; subst hp; exact hwp) (by show (c2.at_ 1).handle.length ≤ 64; rw [ha]; exact hh) (by show 0 ≤ c2.made; omega) (by show c2.made + 2 ≤ _; omega) (by simp)
    have ha' : c'.at_ 1 = { c.at_ 1 with at_ := o, bytes := t } := by
      refine Eq.trans ?_ ha
      unfold ClD.at_
      rw [e5.ps]
    have hd : doneW got w = want := by rw [hwant, hwd]; exact (if_neg he).symm
    have hcn : countW 0 w = (c.at_ 1).bytes.length := by rw [hwd]; exact Nat.zero_add _
    refine ⟨c', want, (c.at_ 1).bytes.length, ?_, e2, e3, e5.ids.1.trans hf.2.1, e5.ids.2.2.trans hf.2.2.1, by rw [e5.ps]; exact hl3, by rw [ha']; exact hh, by rw [ha']; exact hw', by rw [ha', hs2], ?_, ?_⟩
    · rw [e1]
      simp only [List.foldl_cons, List.foldl_nil]
      rw [hd, hcn]
    · rw [ha']
      show _ = _ + t.length
      omega
    · rw [e4]
      show 0 ≤ c2.made + ((1 : Nat) : Int) ∧ c2.made + ((1 : Nat) : Int) ≤ _
      omega
end Go.Proofs.YtfjflkmhhbhceaaGreatDoor


/-
  Layer 33, plain: one thing more is asked of such a client: to read (2), to close (4), to write (3). Condition: Faith; it lies within its bounds.
-/
namespace Go.Proofs.YtfjflkmhhbhceaaGreatDoor
open Go.RowKit

/-- what is wanted when that is asked -/
def wantW (want : List UInt8) (kind : Int) (x : Call) : List UInt8 := if kind = 3 then (nWrite want x.offset x.data).1 else want
def moreW (n : Nat) (kind : Int) (x : Call) : Nat := if kind = 3 then n + x.data.length else n
theorem step_quiet {rd : List UInt8 → Option (Message × Call)} {an : Message → List UInt8} (hF : Faith rd an) {c : ClD} {got want : List UInt8} {written asked k : Nat} (h : WInv c got want written asked k) (hk : k ≤ 100) {kind : Int} (x : Call) (hkind : kind = 2 ∨ kind = 4) (h0 : 0 ≤ x.offset) (h4 : x.offset ≤ 1024) (h1 : 0 ≤ x.count) (h2 : x.count ≤ 4294967295) (step : Int) (hs : 1 ≤ step) :
    (c.ask (askW kind x) step 0).2.2 = 0 ∧ ∃ c', answeredC rd an 6 (c.ask (askW kind x) step 0).1 (c.ask (askW kind x) step 0).2.1 got 0 = (c', want, asked - written, true) ∧ WInv c' want want asked asked (k + 1) ∧ (c'.at_ 1).bytes = [] := by
  obtain ⟨y, hy⟩ : ∃ y, y = (askedC (askW kind x)).1 := ⟨_, rfl⟩
  have hyw : partW ⟨y, 1, 0, -1, 0, 0⟩ ∧ y.proc ≠ 7 ∧ cCheck y = 0 := by
    rcases hkind with rfl | rfl
    · rw [hy, show (askedC (askW 2 x)).1 = readC [] x.offset x.count from rfl]
      exact ⟨partW_read h0 h4 h1 h2, by show (6 : Int) ≠ 7; decide, readC_ok (Nat.zero_le _) h0 h1 h2⟩
    · rw [hy, show (askedC (askW 4 x)).1 = commitC [] from rfl]
      exact ⟨partW_commit, by show (21 : Int) ≠ 7; decide, commitC_ok (Nat.zero_le _)⟩
  have e := ask_quiet (x := x) h.idle hs hkind (by rw [← hy]; exact hyw.2.2)
  rw [← hy] at e
  rw [e]
  exact ⟨rfl, flush hF h hk y hyw.1 hyw.2.1 step 0⟩
theorem step_any {rd : List UInt8 → Option (Message × Call)} {an : Message → List UInt8} (hF : Faith rd an) {c : ClD} {got want : List UInt8} {written asked k : Nat} (h : WInv c got want written asked k) (hk : k ≤ 100) {kind : Int} (x : Call) (hkind : kind = 2 ∨ kind = 3 ∨ kind = 4) (h0 : 0 ≤ x.offset) (h1 : 0 ≤ x.count) (h2 : x.count ≤ 4294967295) (h3 : x.data.length ≤ 256) (h4 : x.offset + x.data.length ≤ 1024) (step : Int) (hs : 1 ≤ step) :
    (c.ask (askW kind x) step 0).2.2 = 0 ∧ ∃ c' got' n, answeredC rd an 6 (c.ask (askW kind x) step 0).1 (c.ask (askW kind x) step 0).2.1 got 0 = (c', got', n, true) ∧ WInv c' got' (wantW want kind x) (written + n) (moreW asked kind x) (k + 1) := by
  by_cases h5 : kind = 3
  · subst h5
    have e := ask_writes (x := x) h.idle hs h0 h3
    rw [e]
    exact ⟨rfl, wrote hF h hk x.offset x.data h0 h4 h3 step 0⟩
  · obtain ⟨e, c', h6, h7, -⟩ := step_quiet hF h hk x (kind := kind) (by omega) h0 (by omega) h1 h2 step hs
    refine ⟨e, c', want, asked - written, h6, ?_⟩
    have h8 : written + (asked - written) = asked := by have := h.cnt; omega
    rw [h8, show wantW want kind x = want from if_neg h5, show moreW asked kind x = asked from if_neg h5]
    exact h7
theorem WInv.new (root : List UInt8) (hr : root.length ≤ 64) : WInv (clNew 1 5 1 root) [] [] 0 0 0 :=
  ⟨rfl, rfl, rfl, rfl, rfl, hr, ⟨Nat.zero_le _, fun h => absurd rfl h⟩, (if_pos rfl).symm, rfl, Int.le_refl _, Int.le_refl _⟩
end Go.Proofs.YtfjflkmhhbhceaaGreatDoor


/-
  Layer 33, plain: what such a client sends is read as it was laid, and so are its answers (Faith). No condition.
-/
namespace Go.Proofs.YtfjflkmhhbhceaaGreatDoor
open Go.RowKit

/-- what bytes say, as the law reads them -/
def rdW (s : List UInt8) : Option (Message × Call) :=
  if (getM9 s).2 ≠ 0 ∨ (getM9 s).1.answer = true ∨ (dGet (getM9 s).1.proc (getM9 s).1.body).2 = false then none else some ((getM9 s).1, (dGet (getM9 s).1.proc (getM9 s).1.body).1)
def anW (m : Message) : List UInt8 := (ansM m).raw
theorem opq_mod33 (l : List UInt8) : (opq l).length % 4 = 0 := by
  unfold opq
  rw [List.length_append, num_len, filled_len]
  unfold padn
  omega
theorem dGet_back (x : Call) (hc : cCheck x = 0) (hgo : x.offset ≤ 9223372036854775807) (hgk : x.cookie ≤ 9223372036854775807) (hgv : x.verf ≤ 9223372036854775807) (hgg : x.guard.n ≤ 9223372036854775807) :
    dGet x.proc (cPut x).1 = (x, true) := by
  have hp : (cPut x).1 = cLaid x (cFields x.proc) (cFields x.proc).length := by unfold cPut; rw [if_pos hc]
  have ht : cThere x.proc = true := by
    cases h : cThere x.proc
    · unfold cCheck at hc
      rw [if_pos h] at hc
      cases hc
    · rfl
  have h1 := cGet_back x hc [] hgo hgk hgv hgg
  rw [List.append_nil, if_pos rfl, cGet_d _ _ ht] at h1
  rw [hp]
  cases hd : (dGet x.proc (cLaid x (cFields x.proc) (cFields x.proc).length)).2
  · rw [hd] at h1
    cases h1
  · rw [hd, if_pos rfl] at h1
    exact Prod.ext (Prod.mk.inj h1).1 hd
/-- how long what is laid of such a call is -/
theorem laidW {x : Call} (hc : cCheck x = 0) (h : (∃ f o t, x = writeC f o t ∧ f.length ≤ 64 ∧ t.length ≤ 256) ∨ (∃ f o n, x = readC f o n ∧ f.length ≤ 64) ∨ (∃ f, x = commitC f ∧ f.length ≤ 64)) : (cPut x).1.length ≤ 600 ∧ (cPut x).1.length % 4 = 0 := by
  have hp : (cPut x).1 = cLaid x (cFields x.proc) (cFields x.proc).length := by unfold cPut; rw [if_pos hc]
  rw [hp]
  rcases h with ⟨f, o, t, rfl, h1, h2⟩ | ⟨f, o, n, rfl, h1⟩ | ⟨f, rfl, h1⟩
  · have e : cLaid (writeC f o t) (cFields (writeC f o t).proc) (cFields (writeC f o t).proc).length = opq f ++ (num o.toNat 8 ++ (num (2 : Int).toNat 4 ++ (opq t ++ []))) := rfl
    rw [e]
    have a1 := opq_len f
    have a2 := opq_len t
    have a3 := opq_mod33 f
    have a4 := opq_mod33 t
    simp only [List.length_append, num_len, List.length_nil]
    omega
  · have e : cLaid (readC f o n) (cFields (readC f o n).proc) (cFields (readC f o n).proc).length = opq f ++ (num o.toNat 8 ++ (num n.toNat 4 ++ [])) := rfl
    rw [e]
    have a1 := opq_len f
    have a3 := opq_mod33 f
    simp only [List.length_append, num_len, List.length_nil]
    omega
  · have e : cLaid (commitC f) (cFields (commitC f).proc) (cFields (commitC f).proc).length = opq f ++ (num (0 : Int).toNat 8 ++ (num (0 : Int).toNat 4 ++ [])) := rfl
    rw [e]
    have a1 := opq_len f
    have a3 := opq_mod33 f
    simp only [List.length_append, num_len, List.length_nil]
    omega
theorem sends_kind {c : ClD} {p : CPart} (h : partW p) (hh : (c.at_ 1).handle.length ≤ 64) : (∃ f o t, c.sends p = writeC f o t ∧ f.length ≤ 64 ∧ t.length ≤ 256) ∨ (∃ f o n, c.sends p = readC f o n ∧ f.length ≤ 64) ∨ (∃ f, c.sends p = commitC f ∧ f.length ≤ 64) := by
  obtain ⟨hd, -, -, -, ⟨o, t, e, h1, -, h2⟩ | ⟨o, n, e, -⟩ | e⟩ := h
  · exact .inl ⟨_, o, t, sends_write e hd, hh, h2⟩
  · exact .inr (.inl ⟨_, o, n, sends_read e hd, hh⟩)
  · exact .inr (.inr ⟨_, sends_commit e hd, hh⟩)
theorem sends_offset {c : ClD} {p : CPart} (h : partW p) : (c.sends p).offset ≤ 1024 := by
  obtain ⟨hd, -, -, -, ⟨o, t, e, h1, h3, h2⟩ | ⟨o, n, e, h1, h3, -⟩ | e⟩ := h
  · rw [sends_write e hd]; exact h3
  · rw [sends_read e hd]; exact h3
  · rw [sends_commit e hd]; show (0 : Int) ≤ 1024; decide
theorem faithW : Faith rdW anW := by
  intro c p hp hh hid hm0 hm1
  obtain ⟨hs, hs1, -, -⟩ := sends_ok hp hh (c := c)
  have hk := sends_kind hp hh (c := c)
  obtain ⟨hl1, hl2⟩ := laidW hs hk
  have hz : (c.sends p).cookie = 0 ∧ (c.sends p).verf = 0 ∧ (c.sends p).guard.n = 0 := by
    rcases hk with ⟨f, o, t, e, -⟩ | ⟨f, o, n, e, -⟩ | ⟨f, e, -⟩
    all_goals
      rw [e]
      exact ⟨rfl, rfl, rfl⟩
  have hb := dGet_back (c.sends p) hs (by have := sends_offset (c := c) hp; omega) (by omega) (by omega) (by omega)
  have hpr : (c.message p).proc = (c.sends p).proc := hs1.symm
  have hbo : (c.message p).body = (cPut (c.sends p)).1 := rfl
  have hp3 := hp.proc
  have hfit : (c.message p).fit = true := by
    have hu : p.uid = 0 ∧ p.gid = 0 := ⟨hp.2.1, hp.2.2.1⟩
    have e1 : (c.message p).xid = c.made + 1 := rfl
    have e2 : (c.message p).cred = ⟨c.id, c.made + 1, p.uid, p.gid⟩ := rfl
    have e3 : (c.message p).answer = false := rfl
    have e4 : (c.message p).accept = 0 := rfl
    have e5 : (c.message p).again = false := rfl
    have e6 : (c.message p).proc = p.c.proc := rfl
    unfold Message.fit
    rw [hbo, e1, e2, e3, e4, e5, e6, hid, hu.1, hu.2]
    simp only [num32, Cred.ok, Bool.and_eq_true, decide_eq_true_eq, beq_iff_eq]
    refine ⟨⟨by omega, hm1⟩, by omega, hl2, ?_⟩
    simp only [Bool.false_eq_true, if_false, Bool.and_eq_true, decide_eq_true_eq, beq_iff_eq, Bool.not_false]
    refine ⟨by omega, by omega, ⟨by omega, by omega, ⟨by omega, hm1⟩, ⟨by omega, by omega⟩, by omega, by omega⟩, trivial, trivial, by omega⟩
  have hraw : putBytes (c.message p) = (c.message p).raw := by
    unfold putBytes
    have h1 := fit_bad (c.message p)
    rw [hfit] at h1
    rw [if_neg (by rw [show (c.message p).bad = false by simpa using h1.symm]; simp)]
    exact (raw_bytes (by rw [hbo]; exact hl2)).symm
  refine ⟨?_, ?_⟩
  · rw [hraw]
    unfold rdW
    rw [get_back hfit, hpr, hbo, hb, if_neg (by simp [show (c.message p).answer = false from rfl])]
  · refine get_back ?_
    have hz2 := zeroBody_len p.c.proc (by rcases hp3 with h | h | h <;> rw [h] <;> simp)
    have e1 : (ansM (c.message p)).xid = c.made + 1 := rfl
    have e2 : (ansM (c.message p)).cred = cred0 := rfl
    have e3 : (ansM (c.message p)).answer = true := rfl
    have e4 : (ansM (c.message p)).accept = 0 := rfl
    have e5 : (ansM (c.message p)).again = false := rfl
    have e6 : (ansM (c.message p)).proc = 0 := rfl
    have e7 : (ansM (c.message p)).body = zeroBody p.c.proc := rfl
    unfold Message.fit
    rw [e7, e1, e2, e3, e4, e5, e6]
    generalize zeroBody p.c.proc = b at *
    simp only [num32, Bool.and_eq_true, decide_eq_true_eq, beq_iff_eq]
    refine ⟨⟨by omega, hm1⟩, by omega, hz2.2, ?_⟩
    simp only [if_true, Bool.and_eq_true, Bool.or_eq_true, decide_eq_true_eq, beq_iff_eq]
    exact ⟨trivial, trivial, by omega, by omega, .inl trivial, by omega⟩
end Go.Proofs.YtfjflkmhhbhceaaGreatDoor


/-
  Layer 33, plain: a client all of whose calls are answered at once, round by round. No condition.
-/
namespace Go.Proofs.YtfjflkmhhbhceaaGreatDoor
open Go.RowKit
/-- a client whose parts are such calls -/
structure W0 (c : ClD) : Prop where
  id : c.id = 1
  server : c.server = 1
  busy : c.busy = false
  parts : ∀ p ∈ c.parts, partW p
  handle : (c.at_ 1).handle.length ≤ 64
  made0 : 0 ≤ c.made
  made1 : c.made + c.parts.length ≤ 900000
  good : ClGood c
/-- it has asked -/
def Asked0 (c : ClD) (out : List Packet) : Prop := ∃ c0 s now, W0 c0 ∧ c = (c0.next s now).1 ∧ out = (c0.next s now).2
theorem nWrite_le {d : List UInt8} (o : Int) (t : List UInt8) (hd : d.length ≤ 1024) : (nWrite d o t).1.length ≤ 1024 := by
  unfold nWrite
  split
  · exact Nat.zero_le _
  · split
    · exact hd
    · split
      · exact Nat.zero_le _
      · rename_i h1 h2 h3
        have := nFill_len d (o.toNat + t.length)
        simp only [List.length_append, List.length_take, List.length_drop]
        omega
theorem zeroM : ∀ p ∈ [(6 : Int), 7, 21], ∀ c ∈ pFields p true, c = 119 ∨ c = 99 ∨ c = 101 ∨ c = 100 ∨ c = 115 ∨ c = 118 ∨ c = 97 := by decide +kernel
theorem zeroM8 {p : Int} (h : p = 6 ∨ p = 7 ∨ p = 21) (k : Nat) (hk : k < (pFields p true).length) : rM8 repD0 (pFields p true)[k].toNat := by
  have h1 := zeroM p (by rcases h with rfl | rfl | rfl <;> simp) _ (List.getElem_mem hk)
  have hw : repD0.f.wcc.ok = true ∧ repD0.f.wcc.good := ⟨by decide +kernel, by repeat' constructor⟩
  have ho : repD0.f.obj.ok = true ∧ repD0.f.obj.good := ⟨by decide +kernel, by repeat' constructor⟩
  have hn : numM 0 := by unfold numM; omega
  generalize (pFields p true)[k] = c at *
  rcases h1 with rfl | rfl | rfl | rfl | rfl | rfl | rfl
  · exact hw
  · exact hn
  · exact trivial
  · exact Nat.zero_le _
  · exact hn
  · exact hn
  · exact ho
theorem W0.next {c : ClD} {s now : Int} (h : W0 c) : (c.parts = [] ∧ c.next s now = (c, [])) ∨ ∃ p l, c.parts = p :: l ∧ partW p ∧ (c.next s now).2 = [c.packet p] ∧ (c.next s now).1.now = p ∧ (c.next s now).1.busy = true ∧ (c.next s now).1.made = c.made + 1 ∧ (c.next s now).1.recs ≠ [] ∧ (c.next s now).1.recs.length ≤ 1000000 ∧ ClGood (c.next s now).1 ∧
    ∀ an : Message → List UInt8, getM9 (an (c.message p)) = (ansM (c.message p), 0) → ∃ c2, (c.next s now).1.take ⟨1, 5, an (c.message p)⟩ 1 0 = c2.next 1 0 ∧ W0 c2 := by
  cases hp : c.parts with
  | nil => exact .inl ⟨rfl, by unfold ClD.next; rw [hp]⟩
  | cons p l =>
    have hpw := h.parts p (by rw [hp]; exact List.mem_cons_self)
    have e : c.next s now = ({ c with parts := l, now := p, busy := true, sent := c.packet p, due := now + 8, made := c.made + 1, recs := c.recs ++ [⟨c.cred p, s, 0, c.tells p, repD0⟩] }, [c.packet p]) := by unfold ClD.next; rw [hp]
    have hg := next_good h.good s now
    have hl := h.made1
    have hm := h.good.made
    rw [hp, List.length_cons] at hl
    rw [e] at hg ⊢
    refine .inr ⟨p, l, rfl, hpw, rfl, rfl, rfl, rfl, by simp, by show (_ ++ _ : List RecdD).length ≤ _; simp; omega, hg, fun an f2 => ?_⟩
    rw [take_zero (c := { c with parts := l, now := p, busy := true, sent := c.packet p, due := now + 8, made := c.made + 1, recs := c.recs ++ [⟨c.cred p, s, 0, c.tells p, repD0⟩] }) (x := ⟨1, 5, an (c.message p)⟩) (m := ansM (c.message p)) rfl h.server.symm f2 rfl rfl rfl (pGet_zero hpw.proc)]
    refine ⟨_, rfl, h.id, h.server, rfl, fun q hq => h.parts q (by rw [hp]; exact List.mem_cons_of_mem _ hq), h.handle, by show 0 ≤ c.made + 1; have := h.made0; omega, by show c.made + 1 + (l.length : Int) ≤ _; omega, hg.len, hg.ps, hg.parts, fun h => (by cases h), ?_⟩
    show c.made + 1 = ((lastSet (c.recs ++ [_]) 1 (toldC repD0)).length : Nat)
    rw [lastSet_length, List.length_append, hm]
    simp
end Go.Proofs.YtfjflkmhhbhceaaGreatDoor
