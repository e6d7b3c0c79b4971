/-
  Layer 33, plain: the numbers of a client and of results that were taken lie within their bounds. Condition: texts of Go's length.
-/
import Derived.Test.YtfjflkmhhbhceaaGreatDoorK37
import Derived.Test.YtfjflkmhhbhceaaGreatDoorK39
namespace Go.Proofs.YtfjflkmhhbhceaaGreatDoor
open Go.RowKit

structure RepSmall (d : RepD) : Prop where
  le : d.es.length ≤ 64
  lu : d.us.length ≤ 16
  obj : d.f.obj.attr.gen ≤ 9223372036854775807
  gens : ∀ x ∈ d.es, x.gen ≤ 9223372036854775807
theorem numsK_length (r : Rs) : ∀ k, (numsK r k).1.length = k
  | 0 => rfl
  | k + 1 => by rw [numsK, List.length_append, numsK_length r k]; rfl
theorem entsK_length (b : Bool) (r : Rs) : ∀ k, (entsK b r k).1.length = k
  | 0 => rfl
  | k + 1 => by rw [entsK, List.length_append, entsK_length b r k]; rfl
theorem oneE_gen (b : Bool) (r : Rs) : (oneE b r).1.gen ≤ 9223372036854775807 := by
  unfold oneE
  split <;> exact rU64_lt r
theorem entsK_gens (b : Bool) (r : Rs) : ∀ k, ∀ x ∈ (entsK b r k).1, x.gen ≤ 9223372036854775807
  | 0, x, h => by cases h
  | k + 1, x, h => by
    rw [entsK] at h
    rcases List.mem_append.1 h with h | h
    · exact entsK_gens b r k x h
    · rw [List.mem_singleton] at h
      subst h
      exact oneE_gen b _
theorem wf_le {n : Int} (h : (Lit.int .i64 n).wf = true) : n ≤ 9223372036854775807 := by
  unfold Lit.wf at h
  simp only [Bool.and_eq_true, decide_eq_true_eq] at h
  exact h.2
theorem gotR_gen {r : Rs} (h : r.s.length ≤ 9223372036854775807) : (gotR Post.ok postZ (rPost r)).1.attr.gen ≤ 9223372036854775807 := by
  have hg : (rPost r).1.attr.gen ≤ 9223372036854775807 := wf_le (rPost_good h).2.2.2.2.2.2.2.1
  unfold gotR
  split
  · show (0 : Int) ≤ _; decide
  · split
    · exact hg
    · show (0 : Int) ≤ _; decide
theorem pTk_small {c : Nat} {d : RepD} {r : Rs} (hk : pTkOk c r = true) (hr : r.s.length ≤ 9223372036854775807) (h : RepSmall d) : RepSmall (pTk c d r).1 := by
  by_cases h1 : c = 97
  · subst h1
    exact ⟨h.le, h.lu, gotR_gen hr, h.gens⟩
  by_cases h2 : c = 110
  · subst h2
    have hk2 : (decide ((rU32 r).1 ≤ 16) && ((numsK (rU32 r).2 (rU32 r).1).2.e == 0)) = true := hk
    simp only [Bool.and_eq_true, decide_eq_true_eq] at hk2
    exact ⟨h.le, (numsK_length _ _).symm ▸ hk2.1, h.obj, h.gens⟩
  by_cases h3 : c = 108
  · subst h3
    have hk2 : (decide ((rU32 r).1 ≤ 64) && (((rU32 r).2.e == 0) && (List.range (rU32 r).1).all fun i => oneOk false (entsK false (rU32 r).2 i).2)) = true := hk
    rw [Bool.and_eq_true, decide_eq_true_eq] at hk2
    exact ⟨(entsK_length _ _ _).symm ▸ hk2.1, h.lu, h.obj, entsK_gens _ _ _⟩
  by_cases h4 : c = 112
  · subst h4
    have hk2 : (decide ((rU32 r).1 ≤ 64) && (((rU32 r).2.e == 0) && (List.range (rU32 r).1).all fun i => oneOk true (entsK true (rU32 r).2 i).2)) = true := hk
    rw [Bool.and_eq_true, decide_eq_true_eq] at hk2
    exact ⟨(entsK_length _ _ _).symm ▸ hk2.1, h.lu, h.obj, entsK_gens _ _ _⟩
  have he : (pTk c d r).1.es = d.es ∧ (pTk c d r).1.us = d.us ∧ (pTk c d r).1.f.obj = d.f.obj := by
    rcases Decidable.em (c = 104) with rfl | q1
    · exact ⟨rfl, rfl, rfl⟩
    rcases Decidable.em (c = 68) with rfl | q2
    · exact ⟨rfl, rfl, rfl⟩
    rcases Decidable.em (c = 119) with rfl | q3
    · exact ⟨rfl, rfl, rfl⟩
    rcases Decidable.em (c = 87) with rfl | q4
    · exact ⟨rfl, rfl, rfl⟩
    rcases Decidable.em (c = 120) with rfl | q5
    · exact ⟨rfl, rfl, rfl⟩
    rcases Decidable.em (c = 99) with rfl | q6
    · exact ⟨rfl, rfl, rfl⟩
    rcases Decidable.em (c = 115) with rfl | q7
    · exact ⟨rfl, rfl, rfl⟩
    rcases Decidable.em (c = 118) with rfl | q8
    · exact ⟨rfl, rfl, rfl⟩
    rcases Decidable.em (c = 101) with rfl | q9
    · exact ⟨rfl, rfl, rfl⟩
    rcases Decidable.em (c = 100) with rfl | q10
    · exact ⟨rfl, rfl, rfl⟩
    unfold pTk
    rw [if_neg q1, if_neg h1, if_neg q2, if_neg q3, if_neg q4, if_neg q5, if_neg q6, if_neg q7, if_neg q8, if_neg q9, if_neg q10, if_neg h2, if_neg h3, if_neg h4]
    exact ⟨rfl, rfl, rfl⟩
  exact ⟨he.1 ▸ h.le, he.2.1 ▸ h.lu, he.2.2 ▸ h.obj, he.1 ▸ h.gens⟩
theorem pSt_small {l : List UInt8} {d : RepD} {r : Rs} (hr : r.s.length ≤ 9223372036854775807) (h : RepSmall d) (hok : ∀ k, k < l.length → pStOk l d r k = true) : ∀ k, k ≤ l.length → RepSmall (pSt l d r k).1
  | 0, _ => h
  | k + 1, hk => by
    rw [pSt_succ l d r k hk]
    refine pTk_small ?_ (pSt_len l d hr k (by omega)) (pSt_small hr h hok k (by omega))
    have := hok k hk
    unfold pStOk at this
    rwa [List.getD_eq_getElem?_getD, List.getElem?_eq_getElem hk] at this
theorem pGet_small {p : Int} {s : List UInt8} {d : RepD} (hs : s.length ≤ 9223372036854775807) (h : pGet p s = some d) : RepSmall d := by
  have hl4 := Nat.le_trans (rU32_len (r := ⟨s, 0⟩) hs) hs
  unfold pGet at h
  generalize rU32 ⟨s, 0⟩ = y at *
  obtain ⟨n, q⟩ := y
  simp only at *
  split at h
  · cases h
  · split at h
    · next h2 =>
      have hd := Option.some.inj h
      rw [← hd]
      exact pSt_small hl4 ⟨Nat.zero_le _, Nat.zero_le _, by show (0 : Int) ≤ _; decide, fun x hx => by cases hx⟩ h2.1 _ (Nat.le_refl _)
    · cases h

/-- what is asked of a call's numbers ahead of its being laid -/
structure CallG (x : Call) : Prop where
  offset : x.offset ≤ 9223372036854775807
  cookie : x.cookie ≤ 9223372036854775807
  verf : x.verf ≤ 9223372036854775807
  set : x.set.good
  guard : x.guard.n ≤ 9223372036854775807
theorem Call.good.g {x : Call} (h : x.good) : CallG x := by
  obtain ⟨-, -, -, -, -, h1, -, -, -, h2, h3, h4, h5, -⟩ := h
  exact ⟨wf_le h1, wf_le h4, wf_le h5, h2, wf_le h3⟩
theorem callZ_g : CallG callZ := ⟨by decide, by decide, by decide, ⟨rfl, rfl, rfl, rfl, rfl⟩, by decide⟩
structure PartG (p : CPart) : Prop where
  call : CallG p.c
  proc : 0 ≤ p.c.proc ∧ p.c.proc ≤ 21
  dir : 0 ≤ p.dir ∧ p.dir < 4
  to_ : 0 ≤ p.to_ ∧ p.to_ < 4
  put : p.put = -1 ∨ (0 ≤ p.put ∧ p.put < 4)
structure PlaceG (p : CPlace) : Prop where
  gen : p.gen ≤ 9223372036854775807
  at_ : 0 ≤ p.at_ ∧ p.at_ ≤ 9223372036854775807
  bytes : p.bytes.length ≤ 256
structure ClGood (c : ClD) : Prop where
  len : c.ps.length = 4
  ps : ∀ p ∈ c.ps, PlaceG p
  parts : ∀ p ∈ c.parts, PartG p
  now : c.busy = true → PartG c.now
  made : c.made = c.recs.length
theorem ClGood.new (id self server : Int) (root : List UInt8) : ClGood (clNew id self server root) :=
  ⟨rfl, fun p hp => by
    obtain ⟨-, rfl⟩ := List.mem_replicate.1 hp
    exact ⟨by show (1 : Int) ≤ _; decide, ⟨by show (0 : Int) ≤ 0; decide, by show (0 : Int) ≤ _; decide⟩, Nat.zero_le _⟩, fun p hp => (by cases hp), fun h => (by cases h), rfl⟩
theorem ClGood.at_ {c : ClD} (h : ClGood c) (i : Int) : PlaceG (c.at_ i) := by
  unfold ClD.at_
  rw [List.getD_eq_getElem?_getD]
  cases hi : c.ps[i.toNat]? with
  | none => exact ⟨by show (0 : Int) ≤ _; decide, ⟨by show (0 : Int) ≤ 0; decide, by show (0 : Int) ≤ _; decide⟩, Nat.zero_le _⟩
  | some p => exact h.ps p (List.mem_of_getElem? hi)
theorem ClGood.put_ {c : ClD} (h : ClGood c) (i : Int) {p : CPlace} (hp : PlaceG p) : ClGood (c.put_ i p) :=
  ⟨by show (c.ps.set _ _).length = 4; rw [List.length_set]; exact h.len, fun q hq => by
    rcases List.mem_or_eq_of_mem_set hq with hq | rfl
    · exact h.ps q hq
    · exact hp, h.parts, h.now, h.made⟩
theorem next_good {c : ClD} (h : ClGood c) (step now : Int) : ClGood (c.next step now).1 := by
  unfold ClD.next
  cases hp : c.parts with
  | nil => exact h
  | cons p l => exact ⟨h.len, h.ps, fun q hq => h.parts q (by rw [hp]; exact List.mem_cons_of_mem _ hq), fun _ => h.parts p (by rw [hp]; exact List.mem_cons_self), by
      show c.made + 1 = ((c.recs ++ [_]).length : Nat)
      rw [h.made, List.length_append]; simp⟩
theorem aheadP {c : ClD} (h : ClGood c) {i : Int} (hi : 0 ≤ i ∧ i < 4) : ClGood (c.ahead i).1 ∧ ∀ p ∈ (c.ahead i).2, PartG p := by
  unfold ClD.ahead
  split
  · exact ⟨h, fun p hp => (by cases hp)⟩
  · refine ⟨h.put_ i ⟨(h.at_ i).gen, ⟨by show (0 : Int) ≤ 0; decide, by show (0 : Int) ≤ _; decide⟩, Nat.zero_le _⟩, fun p hp => ?_⟩
    rw [List.mem_singleton] at hp
    subst hp
    exact ⟨⟨(h.at_ i).at_.2, callZ_g.cookie, callZ_g.verf, callZ_g.set, callZ_g.guard⟩, ⟨by show (0 : Int) ≤ 7; decide, by show (7 : Int) ≤ 21; decide⟩, hi, ⟨by show (0 : Int) ≤ 0; decide, by show (0 : Int) < 4; decide⟩, .inl rfl⟩
theorem cMay_write {o : Int} {t : List UInt8} (h : cCheck { callZ with proc := 7, offset := o, data := t, how := 2 } = 0) : 0 ≤ o ∧ t.length ≤ 256 := by
  unfold cCheck at h
  rw [if_neg (by show ¬ cThere 7 = false; decide)] at h
  split at h
  · next h1 =>
    have h2 : (decide (([] : List UInt8).length ≤ 64) && (decide (0 ≤ o) && ((decide ((0 : Int) ≤ 2) && decide ((2 : Int) ≤ 4294967295)) && (decide (t.length ≤ 256) && true)))) = true := h1.1
    simp only [Bool.and_eq_true, decide_eq_true_eq] at h2
    exact ⟨h2.2.1, h2.2.2.2.1⟩
  · cases h
theorem cThere_of {x : Call} (h : cCheck x = 0) : 0 ≤ x.proc ∧ x.proc ≤ 21 := by
  unfold cCheck at h
  split at h
  · cases h
  · next h1 =>
    simp only [cThere, Bool.not_eq_false, Bool.and_eq_true, decide_eq_true_eq] at h1
    exact h1
theorem askedC_g {a : Ask} (h : CallG a.call) : CallG (askedC a).1 := by
  unfold askedC
  repeat' split
  · exact ⟨callZ_g.offset, callZ_g.cookie, callZ_g.verf, callZ_g.set, callZ_g.guard⟩
  · exact ⟨h.offset, callZ_g.cookie, callZ_g.verf, callZ_g.set, callZ_g.guard⟩
  · exact ⟨h.offset, callZ_g.cookie, callZ_g.verf, callZ_g.set, callZ_g.guard⟩
  · exact ⟨callZ_g.offset, callZ_g.cookie, callZ_g.verf, callZ_g.set, callZ_g.guard⟩
  · exact ⟨h.offset, h.cookie, h.verf, h.set, h.guard⟩
  · exact ⟨callZ_g.offset, callZ_g.cookie, callZ_g.verf, callZ_g.set, callZ_g.guard⟩
theorem placeC_of {i : Int} (h : placeC i = true) : 0 ≤ i ∧ i < 4 := by simpa [placeC] using h
theorem zero4 : (0 : Int) ≤ 0 ∧ (0 : Int) < 4 := by decide
theorem planP {c : ClD} (h : ClGood c) {a : Ask} (ha : CallG a.call) {step now : Int} (hm : mayAsk a step now = true) : ClGood (c.plan a (askedC a).1).1 ∧ ∀ p ∈ (c.plan a (askedC a).1).2, PartG p := by
  have hg := askedC_g ha
  simp only [mayAsk, Bool.and_eq_true, decide_eq_true_eq] at hm
  obtain ⟨⟨⟨⟨⟨hk, -⟩, -⟩, hpl⟩, -⟩, hck⟩ := hm
  have hpr := cThere_of hck
  have g1 : PartG ⟨{ callZ with proc := 1 }, 0, 0, -1, 0, 0⟩ := ⟨callZ_g.1 |> fun h => ⟨h, callZ_g.2, callZ_g.3, callZ_g.4, callZ_g.5⟩, by show (0 : Int) ≤ 1 ∧ (1 : Int) ≤ 21; decide, zero4, zero4, .inl rfl⟩
  by_cases k1 : a.kind = 1
  · rw [show (askedC a).2.1 = [a.dir, a.var] by unfold askedC; rw [if_pos k1]] at hpl
    simp only [List.all_cons, List.all_nil, Bool.and_eq_true, Bool.and_true] at hpl
    obtain ⟨hd, hv⟩ := aheadP h (placeC_of hpl.2)
    unfold ClD.plan
    rw [if_pos k1]
    refine ⟨hd, fun p hp => ?_⟩
    rcases List.mem_append.1 hp with hp | hp
    · exact hv p hp
    · simp only [List.mem_cons, List.not_mem_nil, or_false] at hp
      rcases hp with rfl | rfl | rfl
      · exact ⟨g1.call, g1.proc, placeC_of hpl.1, zero4, .inl rfl⟩
      · exact ⟨hg, hpr, placeC_of hpl.1, zero4, .inr (placeC_of hpl.2)⟩
      · exact ⟨g1.call, g1.proc, placeC_of hpl.2, zero4, .inl rfl⟩
  by_cases k3 : a.kind = 3
  · have ea : askedC a = ({ callZ with proc := 7, offset := a.call.offset, data := a.call.data, how := 2 }, [a.var], true) := by unfold askedC; rw [if_neg k1, if_neg (by omega), if_pos k3]
    rw [ea] at hck hpl hg ⊢
    simp only [List.all_cons, List.all_nil, Bool.and_true] at hpl
    have hw := cMay_write hck
    obtain ⟨hd, hv⟩ := aheadP h (placeC_of hpl)
    have hg' := hg.offset
    simp only at hg'
    have hp2 : PlaceG { c.at_ a.var with at_ := a.call.offset, bytes := a.call.data } := ⟨(h.at_ _).gen, ⟨hw.1, hg'⟩, hw.2⟩
    unfold ClD.plan
    rw [if_neg k1, if_pos k3]
    unfold ClD.late
    split
    · exact ⟨h, fun p hp => (by cases hp)⟩
    · split
      · next hc =>
        refine ⟨h.put_ _ ⟨(h.at_ _).gen, (h.at_ _).at_, ?_⟩, fun p hp => by cases hp⟩
        show (_ ++ _ : List UInt8).length ≤ 256
        rw [List.length_append]
        exact hc.2.2
      · exact ⟨hd.put_ _ hp2, hv⟩
  by_cases k5 : a.kind = 5
  · have ea : askedC a = ({ a.call with fh := [], fh2 := [] }, [a.dir, a.to_, a.var], true) := by unfold askedC; rw [if_neg k1, if_neg (by omega), if_neg k3, if_neg (by omega), if_pos k5]
    rw [ea] at hpl hg hpr ⊢
    simp only [List.all_cons, List.all_nil, Bool.and_eq_true, Bool.and_true] at hpl
    obtain ⟨hd, hv⟩ := aheadP h (placeC_of hpl.2.2)
    unfold ClD.plan
    rw [if_neg k1, if_neg k3, if_pos k5]
    split
    · refine ⟨hd, fun p hp => ?_⟩
      rcases List.mem_append.1 hp with hp | hp
      · exact hv p hp
      · rw [List.mem_singleton] at hp
        subst hp
        exact ⟨hg, hpr, placeC_of hpl.1, placeC_of hpl.2.1, .inr (placeC_of hpl.2.2)⟩
    · refine ⟨h, fun p hp => ?_⟩
      rw [List.mem_singleton] at hp
      subst hp
      exact ⟨hg, hpr, placeC_of hpl.1, placeC_of hpl.2.1, .inl rfl⟩
  · have hvar : placeC a.var = true := by
      unfold askedC at hpl hk
      rw [if_neg k1] at hpl hk
      by_cases k2 : a.kind = 2
      · rw [if_pos k2] at hpl
        simpa using hpl
      · rw [if_neg k2, if_neg k3] at hpl hk
        by_cases k4 : a.kind = 4
        · rw [if_pos k4] at hpl
          simpa using hpl
        · rw [if_neg k4, if_neg k5] at hk
          cases hk
    obtain ⟨hd, hv⟩ := aheadP h (placeC_of hvar)
    unfold ClD.plan
    rw [if_neg k1, if_neg k3, if_neg k5]
    refine ⟨hd, fun p hp => ?_⟩
    rcases List.mem_append.1 hp with hp | hp
    · exact hv p hp
    · rw [List.mem_singleton] at hp
      subst hp
      exact ⟨hg, hpr, placeC_of hvar, zero4, .inl rfl⟩
theorem ask_good {c : ClD} (h : ClGood c) {a : Ask} (ha : CallG a.call) (step now : Int) : ClGood (c.ask a step now).1 := by
  unfold ClD.ask
  split
  · exact h
  · rename_i hb
    split
    · exact h
    · rename_i hm
      obtain ⟨h1, h2⟩ := planP h ha (by simpa using hm) (step := step) (now := now)
      refine next_good (c := { (c.plan a (askedC a).1).1 with parts := (c.plan a (askedC a).1).2.map fun p => { p with uid := a.uid, gid := a.gid } }) ⟨h1.len, h1.ps, fun p hp => ?_, h1.now, h1.made⟩ step now
      obtain ⟨q, hq, rfl⟩ := List.mem_map.1 hp
      exact ⟨(h2 q hq).call, (h2 q hq).proc, (h2 q hq).dir, (h2 q hq).to_, (h2 q hq).put⟩
theorem lastSet_length (l : List RecdD) (step : Int) (d : RepD) : (lastSet l step d).length = l.length := by
  rcases List.eq_nil_or_concat l with rfl | ⟨m, r, rfl⟩
  · rfl
  · simp [lastSet]
theorem take_good {c : ClD} (h : ClGood c) {x : Packet} (hx : (getM9 x.data).1.body.length ≤ 9223372036854775807) (step now : Int) : ClGood (c.take x step now).1 := by
  unfold ClD.take
  split
  · exact h
  · split
    · exact h
    · split
      · exact h
      · rename_i d hd
        have hs := pGet_small hx hd
        have h1 : ClGood { c with recs := lastSet c.recs step (toldC d), busy := false } := ⟨h.len, h.ps, h.parts, fun h => (by cases h), by rw [lastSet_length]; exact h.made⟩
        simp only
        split
        · exact ⟨h1.len, h1.ps, fun p hp => (by cases hp), fun h => (by cases h), h1.made⟩
        · split
          · exact next_good (h1.put_ c.now.put (p := { c.at_ c.now.put with handle := d.f.fh, gen := d.f.obj.attr.gen }) ⟨hs.obj, (h.at_ _).at_, (h.at_ _).bytes⟩) _ _
          · exact next_good h1 _ _
theorem next_recs (c : ClD) (step now : Int) : (c.next step now).1.recs.length ≤ c.recs.length + 1 := by
  unfold ClD.next
  cases hp : c.parts with
  | nil => exact Nat.le_succ _
  | cons p l => simp
theorem ask_recs (c : ClD) (a : Ask) (step now : Int) : (c.ask a step now).1.recs.length ≤ c.recs.length + 1 := by
  unfold ClD.ask
  split
  · exact Nat.le_succ _
  · split
    · exact Nat.le_succ _
    · have e : (c.plan a (askedC a).1).1.recs = c.recs := by
        unfold ClD.plan ClD.late ClD.ahead
        repeat' split
        all_goals rfl
      refine Nat.le_trans (next_recs _ step now) ?_
      show (c.plan a (askedC a).1).1.recs.length + 1 ≤ _
      rw [e]
      exact Nat.le_refl _
theorem take_recs (c : ClD) (x : Packet) (step now : Int) : (c.take x step now).1.recs.length ≤ c.recs.length + 1 := by
  unfold ClD.take
  split
  · exact Nat.le_succ _
  · split
    · exact Nat.le_succ _
    · split
      · exact Nat.le_succ _
      · rename_i d hd
        have e := lastSet_length c.recs step (toldC d)
        simp only
        split
        · show (lastSet c.recs step (toldC d)).length ≤ _
          omega
        · split
          · refine Nat.le_trans (next_recs _ step now) ?_
            show (lastSet c.recs step (toldC d)).length + 1 ≤ _
            omega
          · refine Nat.le_trans (next_recs _ step now) ?_
            show (lastSet c.recs step (toldC d)).length + 1 ≤ _
            omega
end Go.Proofs.YtfjflkmhhbhceaaGreatDoor

/-
  Layer 33: the places of a client, in memory, by their numbers. No condition.
-/
namespace Go.Proofs.YtfjflkmhhbhceaaGreatDoor
open Go.RowKit

def Clnt.place (z : Clnt) : Nat → CPlace
  | 0 => z.p0
  | 1 => z.p1
  | 2 => z.p2
  | _ => z.p3
def Clnt.setPlace (z : Clnt) (n : Nat) (p : CPlace) : Clnt := match n with
  | 0 => { z with p0 := p }
  | 1 => { z with p1 := p }
  | 2 => { z with p2 := p }
  | _ => { z with p3 := p }
theorem ClZ.at_ {c : ClD} {z : Clnt} (h : ClZ c z) {n : Nat} (hn : n < 4) : c.at_ (n : Int) = z.place n := by
  unfold ClD.at_
  rw [h.ps, Int.toNat_natCast]
  rcases (show n = 0 ∨ n = 1 ∨ n = 2 ∨ n = 3 by omega) with rfl | rfl | rfl | rfl
  all_goals exact rfl
theorem place_cells (z : Clnt) {n : Nat} (hn : n < 4) : z.vals[3 + n * 4]? = some (.string (bs (z.place n).handle)) ∧ z.vals[3 + n * 4 + 1]? = some (.int .i64 (z.place n).gen) ∧ z.vals[3 + n * 4 + 2]? = some (.int .i64 (z.place n).at_) ∧ z.vals[3 + n * 4 + 3]? = some (.string (bs (z.place n).bytes)) := by
  rcases (show n = 0 ∨ n = 1 ∨ n = 2 ∨ n = 3 by omega) with rfl | rfl | rfl | rfl
  all_goals exact ⟨rfl, rfl, rfl, rfl⟩
theorem ClZ.setPlace {c : ClD} {z : Clnt} (h : ClZ c z) {n : Nat} (hn : n < 4) (p : CPlace) : ClZ (c.put_ (n : Int) p) (z.setPlace n p) := by
  obtain ⟨h1, h2, h3, h4, h5, h6, h7, h8, h9⟩ := h
  rcases (show n = 0 ∨ n = 1 ∨ n = 2 ∨ n = 3 by omega) with rfl | rfl | rfl | rfl
  all_goals exact ⟨h1, h2, h3, by unfold ClD.put_; rw [h4]; rfl, h5, h6, h7, h8, h9⟩
theorem place_set_wait (z : Clnt) {n : Nat} (hn : n < 4) (a : Int) (b : List UInt8) : (z.vals.set (3 + n * 4 + 2) (.int .i64 a)).set (3 + n * 4 + 3) (.string (bs b)) = (z.setPlace n { z.place n with at_ := a, bytes := b }).vals := by
  rcases (show n = 0 ∨ n = 1 ∨ n = 2 ∨ n = 3 by omega) with rfl | rfl | rfl | rfl
  all_goals exact rfl
theorem place_set_bytes (z : Clnt) {n : Nat} (hn : n < 4) (b : List UInt8) : z.vals.set (3 + n * 4 + 3) (.string (bs b)) = (z.setPlace n { z.place n with bytes := b }).vals := by
  rcases (show n = 0 ∨ n = 1 ∨ n = 2 ∨ n = 3 by omega) with rfl | rfl | rfl | rfl
  all_goals exact rfl
theorem place_set_handle (z : Clnt) {n : Nat} (hn : n < 4) (h : List UInt8) (k : Int) : (z.vals.set (3 + n * 4) (.string (bs h))).set (3 + n * 4 + 1) (.int .i64 k) = (z.setPlace n { z.place n with handle := h, gen := k }).vals := by
  rcases (show n = 0 ∨ n = 1 ∨ n = 2 ∨ n = 3 by omega) with rfl | rfl | rfl | rfl
  all_goals exact rfl
theorem setPlace_keeps (z : Clnt) {n : Nat} (hn : n < 4) (p : CPlace) : (z.setPlace n p).ta = z.ta ∧ (z.setPlace n p).tn = z.tn ∧ (z.setPlace n p).tc = z.tc ∧ (z.setPlace n p).ra = z.ra ∧ (z.setPlace n p).rn = z.rn ∧ (z.setPlace n p).rc = z.rc := by
  rcases (show n = 0 ∨ n = 1 ∨ n = 2 ∨ n = 3 by omega) with rfl | rfl | rfl | rfl
  all_goals exact ⟨rfl, rfl, rfl, rfl, rfl, rfl⟩
end Go.Proofs.YtfjflkmhhbhceaaGreatDoor
