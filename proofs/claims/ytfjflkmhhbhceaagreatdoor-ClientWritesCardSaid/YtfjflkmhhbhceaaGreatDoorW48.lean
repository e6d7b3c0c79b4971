/-
  Layer 33, plain: what such a client is when it has asked. Condition: what is asked lies within its bounds.
-/
import Derived.Test.YtfjflkmhhbhceaaGreatDoorW31
namespace Go.Proofs.YtfjflkmhhbhceaaGreatDoor
open Go.RowKit
structure Keeps (c : ClD) (q : ClD × List CPart) : Prop where
  id : q.1.id = c.id
  server : q.1.server = c.server
  busy : q.1.busy = c.busy
  made : q.1.made = c.made
  handle : (q.1.at_ 1).handle = (c.at_ 1).handle
  parts : ∀ p ∈ q.2, p = ⟨writeC [] (c.at_ 1).at_ (c.at_ 1).bytes, 1, 0, -1, 0, 0⟩ ∧ (c.at_ 1).bytes ≠ []
  few : q.2.length ≤ 1
theorem ahead_keeps {c : ClD} (hl : c.ps.length = 4) : Keeps c (c.ahead 1) ∧ (c.ahead 1).1.ps.length = 4 := by
  unfold ClD.ahead
  split
  · exact ⟨⟨rfl, rfl, rfl, rfl, rfl, fun p hp => (by cases hp), Nat.zero_le _⟩, hl⟩
  · rename_i h
    have ha := at_put hl { c.at_ 1 with at_ := 0, bytes := [] }
    refine ⟨⟨rfl, rfl, rfl, rfl, ?_, fun p hp => ?_, Nat.le_refl _⟩, by show (c.ps.set _ _).length = 4; rw [List.length_set]; exact hl⟩
    · show ((c.put_ 1 { c.at_ 1 with at_ := 0, bytes := [] }).at_ 1).handle = _
      rw [ha]
    · rw [List.mem_singleton] at hp
      exact ⟨hp, h⟩
theorem late_keeps {c : ClD} (hl : c.ps.length = 4) (x : Call) : Keeps c (c.late 1 x) := by
  obtain ⟨h, hl2⟩ := ahead_keeps hl
  unfold ClD.late
  split
  · exact ⟨rfl, rfl, rfl, rfl, rfl, fun p hp => (by cases hp), Nat.zero_le _⟩
  · split
    · have ha := at_put hl { c.at_ 1 with bytes := (c.at_ 1).bytes ++ x.data }
      exact ⟨rfl, rfl, rfl, rfl, by show ((c.put_ 1 _).at_ 1).handle = _; rw [ha], fun p hp => (by cases hp), Nat.zero_le _⟩
    · have ha := at_put hl2 { c.at_ 1 with at_ := x.offset, bytes := x.data }
      exact ⟨h.id, h.server, h.busy, h.made, by show (((c.ahead 1).1.put_ 1 _).at_ 1).handle = _; rw [ha], h.parts, h.few⟩
theorem asked0_any {c : ClD} {got want : List UInt8} {written asked k : Nat} (h : WInv c got want written asked k) (hG : ClGood c) (hk : k ≤ 100) {kind : Int} (x : Call) (hkind : kind = 2 ∨ kind = 3 ∨ kind = 4) (h0 : 0 ≤ x.offset) (h1 : 0 ≤ x.count) (h2 : x.count ≤ 4294967295) (h3 : x.data.length ≤ 256) (h4 : x.offset + x.data.length ≤ 1024) (hg : CallG x) (step : Int) (hs : 1 ≤ step) :
    Asked0 (c.ask (askW kind x) step 0).1 (c.ask (askW kind x) step 0).2.1 := by
  obtain ⟨y, hy⟩ : ∃ y, y = (askedC (askW kind x)).1 := ⟨_, rfl⟩
  have hyw : partW ⟨y, 1, 0, -1, 0, 0⟩ ∧ cCheck y = 0 := by
    rcases hkind with rfl | rfl | rfl
    · rw [hy, show (askedC (askW 2 x)).1 = readC [] x.offset x.count from rfl]
      exact ⟨partW_read h0 (by omega) h1 h2, readC_ok (Nat.zero_le _) h0 h1 h2⟩
    · rw [hy, show (askedC (askW 3 x)).1 = writeC [] x.offset x.data from rfl]
      exact ⟨partW_write h0 (by omega) h3, writeC_ok (Nat.zero_le _) h0 h3⟩
    · rw [hy, show (askedC (askW 4 x)).1 = commitC [] from rfl]
      exact ⟨partW_commit, commitC_ok (Nat.zero_le _)⟩
  have hm : mayAsk (askW kind x) step 0 = true := by
    unfold mayAsk
    rw [← hy, hyw.2]
    rcases hkind with rfl | rfl | rfl <;> simp [askedC, askW, timedC, placeC, whoC, hs]
  obtain ⟨g1, g2⟩ := planP hG (a := askW kind x) hg hm
  rw [← hy] at g1 g2
  obtain ⟨q, hq⟩ : ∃ q, q = c.plan (askW kind x) y := ⟨_, rfl⟩
  rw [← hq] at g1 g2
  have hkp : q.1.id = c.id ∧ q.1.server = c.server ∧ q.1.busy = c.busy ∧ q.1.made = c.made ∧ (q.1.at_ 1).handle = (c.at_ 1).handle ∧ (∀ p ∈ q.2, (p = ⟨writeC [] (c.at_ 1).at_ (c.at_ 1).bytes, 1, 0, -1, 0, 0⟩ ∧ (c.at_ 1).bytes ≠ []) ∨ p = ⟨y, 1, 0, -1, 0, 0⟩) ∧ q.2.length ≤ 2 := by
    obtain ⟨ha, -⟩ := ahead_keeps h.len
    rcases hkind with rfl | rfl | rfl
    · have e : q = ((c.ahead 1).1, (c.ahead 1).2 ++ [⟨y, 1, 0, -1, 0, 0⟩]) := by rw [hq]; rfl
      rw [e]
      refine ⟨ha.id, ha.server, ha.busy, ha.made, ha.handle, fun p hp => ?_, by rw [List.length_append]; have := ha.few; simp; omega⟩
      rcases List.mem_append.1 hp with hp | hp
      · exact .inl (ha.parts p hp)
      · exact .inr (List.mem_singleton.1 hp)
    · have e : q = c.late 1 y := by rw [hq]; rfl
      have hl := late_keeps h.len y
      rw [e]
      exact ⟨hl.id, hl.server, hl.busy, hl.made, hl.handle, fun p hp => .inl (hl.parts p hp), Nat.le_succ_of_le hl.few⟩
    · have e : q = ((c.ahead 1).1, (c.ahead 1).2 ++ [⟨y, 1, 0, -1, 0, 0⟩]) := by rw [hq]; rfl
      rw [e]
      refine ⟨ha.id, ha.server, ha.busy, ha.made, ha.handle, fun p hp => ?_, by rw [List.length_append]; have := ha.few; simp; omega⟩
      rcases List.mem_append.1 hp with hp | hp
      · exact .inl (ha.parts p hp)
      · exact .inr (List.mem_singleton.1 hp)
  obtain ⟨k1, k2, k3, k4, k5, k6, k7⟩ := hkp
  refine ⟨{ q.1 with parts := q.2.map fun p => { p with uid := 0, gid := 0 } }, step, 0, ?_, ?_, ?_⟩
  · refine ⟨k1.trans h.id, k2.trans h.server, k3.trans h.idle, fun p hp => ?_, by show (q.1.at_ 1).handle.length ≤ 64; rw [k5]; exact h.handle, by show 0 ≤ q.1.made; rw [k4]; exact h.made.1, ?_, ?_⟩
    · obtain ⟨p0, hp0, rfl⟩ := List.mem_map.1 hp
      rcases k6 p0 hp0 with ⟨rfl, hne⟩ | rfl
      · obtain ⟨w1, w2⟩ := h.waits.2 hne
        exact partW_write w1 (by omega) h.waits.1
      · exact hyw.1
    · show q.1.made + ((q.2.map _).length : Nat) ≤ _
      rw [List.length_map, k4]
      have := h.made.2
      omega
    · exact ⟨g1.len, g1.ps, fun p hp => by
        obtain ⟨p0, hp0, rfl⟩ := List.mem_map.1 hp
        exact ⟨(g2 p0 hp0).call, (g2 p0 hp0).proc, (g2 p0 hp0).dir, (g2 p0 hp0).to_, (g2 p0 hp0).put⟩, g1.now, g1.made⟩
  · unfold ClD.ask
    rw [h.idle, hm, ← hy, ← hq]
    rfl
  · unfold ClD.ask
    rw [h.idle, hm, ← hy, ← hq]
    rfl
end Go.Proofs.YtfjflkmhhbhceaaGreatDoor
