/-
  Layer 7 in plain words: what is taken, laid once more, is the bytes. Condition: a machine text.
-/
import Derived.Test.YthfhdighniiodaaDoorC30
namespace Go.Proofs.YthfhdighniiodaaDoor
open Go.RowKit

theorem Sett.upto_set (s : Sett) (o : Opt) {k : Nat} (hk : k < 5) : (setOpt s o k).upto (k + 1) = s.upto k ++ o.bytes := by
  match k, hk with
  | 0, _ | 1, _ | 2, _ | 3, _ | 4, _ => simp [Sett.upto, Sett.opt, setOpt]
theorem settK_same (r : Rs) (_h0 : r.e = 0) {k : Nat} (hk : k ≤ 5) (h : (settK k r).2.e = 0) : r.s = (settK k r).1.upto k ++ (settK k r).2.s := by
  induction k with
  | zero => rfl
  | succ k ih =>
    have hs : (settK (k + 1) r).2 = (rOpt (settK k r).2).2 := rfl
    have hv : (settK (k + 1) r).1 = setOpt (settK k r).1 (optOf (rOpt (settK k r).2).1) k := rfl
    have he : (settK k r).2.e = 0 := by
      apply Classical.byContradiction
      intro hc
      rw [hs, rOpt_stick hc] at h
      exact hc h
    have e1 := ih (by omega) he
    rw [hs] at h
    have e2 := (rOpt_same he h).1
    rw [hv, hs, Sett.upto_set _ _ (by omega), List.append_assoc]
    show r.s = (settK k r).1.upto k ++ (optB (rOpt (settK k r).2).1.1 ((rOpt (settK k r).2).1.2 : Int) ++ (rOpt (settK k r).2).2.s)
    rw [← e2]; exact e1
theorem rSett_same {r : Rs} (h0 : r.e = 0) (h : (rSett r).2.e = 0) : r.s = (rSett r).1.bytes ++ (rSett r).2.s := by
  have := settK_same r h0 (Nat.le_refl 5) h
  rw [Sett.upto_five] at this
  exact this
theorem gotR_zero {α : Type} {ok : α → Bool} {n : α} {x : α × Rs} (h : ((gotR ok n x).2 == 0) = true) : x.2.e = 0 ∧ ok x.1 = true ∧ (gotR ok n x).1 = x.1 := by
  unfold gotR at *
  by_cases h1 : x.2.e ≠ 0
  · rw [if_pos h1] at h; exact absurd (by simpa using h) h1
  · rw [if_neg h1] at *
    by_cases h2 : ok x.1 = true
    · rw [if_pos h2]; exact ⟨by simpa using h1, h2, rfl⟩
    · rw [if_neg h2] at h; simp at h
theorem cTk_same (c : Nat) (hc : cLetter c) (z : Call) {r : Rs} (h0 : r.e = 0) (hk : cTkOk c r = true) :
    r.s = cBytes (cTk c z r).1 c ++ (cTk c z r).2.s ∧ (cTk c z r).2.e = 0 ∧ cMay (cTk c z r).1 c = true := by
  have ho : ∀ n : Int, (rOpaque n r).2.e = 0 → _ := fun n h => rOpaque_same (most := n) h0 h
  have hd : ∀ n : Nat, ((n : Int)).toNat = n := fun n => Int.toNat_natCast n
  rcases hc with rfl | rfl | rfl | rfl | rfl | rfl | rfl | rfl | rfl | rfl | rfl | rfl | rfl
  · have h : (rOpaque 64 r).2.e = 0 := eq_of_beq hk
    obtain ⟨e1, e2⟩ := ho 64 h
    exact ⟨e1, h, decide_eq_true (show (rOpaque 64 r).1.length ≤ 64 by omega)⟩
  · have h : (rOpaque 64 r).2.e = 0 := eq_of_beq hk
    obtain ⟨e1, e2⟩ := ho 64 h
    exact ⟨e1, h, decide_eq_true (show (rOpaque 64 r).1.length ≤ 64 by omega)⟩
  · have h : (rOpaque 255 r).2.e = 0 := eq_of_beq hk
    obtain ⟨e1, e2⟩ := ho 255 h
    exact ⟨e1, h, decide_eq_true (show (rOpaque 255 r).1.length ≤ 255 by omega)⟩
  · have h : (rOpaque 255 r).2.e = 0 := eq_of_beq hk
    obtain ⟨e1, e2⟩ := ho 255 h
    exact ⟨e1, h, decide_eq_true (show (rOpaque 255 r).1.length ≤ 255 by omega)⟩
  · have h : (rOpaque 255 r).2.e = 0 := eq_of_beq hk
    obtain ⟨e1, e2⟩ := ho 255 h
    exact ⟨e1, h, decide_eq_true (show (rOpaque 255 r).1.length ≤ 255 by omega)⟩
  · have h : (rOpaque 256 r).2.e = 0 := eq_of_beq hk
    obtain ⟨e1, e2⟩ := ho 256 h
    exact ⟨e1, h, decide_eq_true (show (rOpaque 256 r).1.length ≤ 256 by omega)⟩
  · have h : (rU64 r).2.e = 0 := eq_of_beq hk
    obtain ⟨e1, e2⟩ := rU64_same h0 h
    exact ⟨(congrArg (fun n => num n 8 ++ (rU64 r).2.s) (hd _)).symm ▸ e1, h, decide_eq_true (show (0 : Int) ≤ ((rU64 r).1 : Int) by omega)⟩
  · have h : (rU64 r).2.e = 0 := eq_of_beq hk
    obtain ⟨e1, e2⟩ := rU64_same h0 h
    exact ⟨(congrArg (fun n => num n 8 ++ (rU64 r).2.s) (hd _)).symm ▸ e1, h, decide_eq_true (show (0 : Int) ≤ ((rU64 r).1 : Int) by omega)⟩
  · have h : (rU64 r).2.e = 0 := eq_of_beq hk
    obtain ⟨e1, e2⟩ := rU64_same h0 h
    exact ⟨(congrArg (fun n => num n 8 ++ (rU64 r).2.s) (hd _)).symm ▸ e1, h, decide_eq_true (show (0 : Int) ≤ ((rU64 r).1 : Int) by omega)⟩
  · have h : (rU32 r).2.e = 0 := eq_of_beq hk
    obtain ⟨e1, e2⟩ := rU32_same h0 h
    exact ⟨(congrArg (fun n => num n 4 ++ (rU32 r).2.s) (hd _)).symm ▸ e1, h, (Bool.and_eq_true _ _).mpr ⟨decide_eq_true (show (0 : Int) ≤ ((rU32 r).1 : Int) by omega), decide_eq_true (show ((rU32 r).1 : Int) ≤ 4294967295 by omega)⟩⟩
  · have h : (rU32 r).2.e = 0 := eq_of_beq hk
    obtain ⟨e1, e2⟩ := rU32_same h0 h
    exact ⟨(congrArg (fun n => num n 4 ++ (rU32 r).2.s) (hd _)).symm ▸ e1, h, (Bool.and_eq_true _ _).mpr ⟨decide_eq_true (show (0 : Int) ≤ ((rU32 r).1 : Int) by omega), decide_eq_true (show ((rU32 r).1 : Int) ≤ 4294967295 by omega)⟩⟩
  · obtain ⟨h, h2, h3⟩ := gotR_zero (x := rSett r) hk
    have e1 := rSett_same h0 h
    rw [cTk_s, cBytes_s, h3]
    exact ⟨e1, h, h2⟩
  · have h : (rOpt r).2.e = 0 := eq_of_beq hk
    obtain ⟨e1, e2⟩ := rOpt_same h0 h
    refine ⟨e1, h, (Bool.and_eq_true _ _).mpr ⟨decide_eq_true (show (0 : Int) ≤ ((rOpt r).1.2 : Int) by omega), ?_⟩⟩
    show ((rOpt r).1.1 || ((rOpt r).1.2 : Int) == 0) = true
    rcases rOpt_not (r := r) with h | h <;> rw [h] <;> simp
set_option maxHeartbeats 4000000 in
theorem cTk_other (c d : Nat) (hc : cLetter c) (hd : cLetter d) (hne : c ≠ d) (z : Call) (r : Rs) : cBytes (cTk c z r).1 d = cBytes z d ∧ cMay (cTk c z r).1 d = cMay z d := by
  rcases hc with rfl | rfl | rfl | rfl | rfl | rfl | rfl | rfl | rfl | rfl | rfl | rfl | rfl <;>
  rcases hd with rfl | rfl | rfl | rfl | rfl | rfl | rfl | rfl | rfl | rfl | rfl | rfl | rfl <;>
  first | exact absurd rfl hne | exact ⟨rfl, rfl⟩
theorem cLaid_congr {x y : Call} {l : List UInt8} {k : Nat} (h : ∀ c ∈ l.take k, cBytes x c.toNat = cBytes y c.toNat) : cLaid x l k = cLaid y l k := by
  unfold cLaid
  generalize l.take k = m at *
  induction m with
  | nil => rfl
  | cons a m ih => rw [List.flatMap_cons, List.flatMap_cons, h a (by simp), ih (fun c hc => h c (by simp [hc]))]
theorem nodup_take {l : List UInt8} (hn : l.Nodup) {k j : Nat} (hk : k < l.length) (hj : j < k) : l[k] ≠ l[j]'(by omega) := by
  intro h
  exact (List.pairwise_iff_getElem.1 hn) j k (by omega) hk hj h.symm
theorem cSt_same (l : List UInt8) (hl : ∀ k (hk : k < l.length), cLetter l[k].toNat) (hn : l.Nodup) (z : Call) (r : Rs) (h0 : r.e = 0) (hok : ∀ k, k < l.length → cStOk l z r k = true) (k : Nat) (hk : k ≤ l.length) :
    r.s = cLaid (cSt l z r k).1 l k ++ (cSt l z r k).2.s ∧ (cSt l z r k).2.e = 0 ∧ ∀ j (hj : j < k), cMay (cSt l z r k).1 (l[j]'(by omega)).toNat = true := by
  induction k with
  | zero => exact ⟨rfl, h0, fun j hj => absurd hj (by omega)⟩
  | succ k ih =>
    have hk' : k < l.length := hk
    obtain ⟨e1, e2, e3⟩ := ih (by omega)
    have ho := hok k hk'
    rw [cStOk_at _ _ _ _ hk'] at ho
    obtain ⟨f1, f2, f3⟩ := cTk_same _ (hl k hk') (cSt l z r k).1 e2 ho
    rw [cSt_succ _ _ _ _ hk']
    have hoth : ∀ j (hj : j < k), _ := fun j hj => cTk_other l[k].toNat (l[j]'(by omega)).toNat (hl k hk') (hl j (by omega)) (fun h => nodup_take hn hk' hj (UInt8.toNat_inj.1 h)) (cSt l z r k).1 (cSt l z r k).2
    generalize cTk l[k].toNat (cSt l z r k).1 (cSt l z r k).2 = y at *
    refine ⟨?_, f2, ?_⟩
    · rw [cLaid_succ _ _ _ hk', List.append_assoc, ← f1, cLaid_congr (y := (cSt l z r k).1)]
      · exact e1
      · intro c hc
        obtain ⟨j, hj, rfl⟩ := List.getElem_of_mem hc
        have hj2 : j < k := by rw [List.length_take] at hj; omega
        rw [List.getElem_take]
        exact (hoth j hj2).1
    · intro j hj
      by_cases hjk : j = k
      · subst hjk; exact f3
      · rw [(hoth j (by omega)).2]; exact e3 j (by omega)
/-- machine numbers -/
def cFit (x : Call) : Prop := x.offset ≤ 9223372036854775807 ∧ x.cookie ≤ 9223372036854775807 ∧ x.verf ≤ 9223372036854775807 ∧ x.set.good ∧ x.guard.n ≤ 9223372036854775807
theorem cTk_fit (c : Nat) (hc : cLetter c) (z : Call) {r : Rs} (hl : r.s.length ≤ 9223372036854775807) (h : cFit z) : cFit (cTk c z r).1 ∧ (cTk c z r).1.proc = z.proc := by
  obtain ⟨h1, h2, h3, h4, h5⟩ := h
  have e8 := rU64_lt r
  rcases hc with rfl | rfl | rfl | rfl | rfl | rfl | rfl | rfl | rfl | rfl | rfl | rfl | rfl
  · exact ⟨⟨h1, h2, h3, h4, h5⟩, rfl⟩
  · exact ⟨⟨h1, h2, h3, h4, h5⟩, rfl⟩
  · exact ⟨⟨h1, h2, h3, h4, h5⟩, rfl⟩
  · exact ⟨⟨h1, h2, h3, h4, h5⟩, rfl⟩
  · exact ⟨⟨h1, h2, h3, h4, h5⟩, rfl⟩
  · exact ⟨⟨h1, h2, h3, h4, h5⟩, rfl⟩
  · exact ⟨⟨e8, h2, h3, h4, h5⟩, rfl⟩
  · exact ⟨⟨h1, e8, h3, h4, h5⟩, rfl⟩
  · exact ⟨⟨h1, h2, e8, h4, h5⟩, rfl⟩
  · exact ⟨⟨h1, h2, h3, h4, h5⟩, rfl⟩
  · exact ⟨⟨h1, h2, h3, h4, h5⟩, rfl⟩
  · refine ⟨⟨h1, h2, h3, ?_, h5⟩, rfl⟩
    rw [cTk_s]
    show (gotR Sett.ok settZ (rSett r)).1.good
    have hz : settZ.good := ⟨rfl, rfl, rfl, rfl, rfl⟩
    have hg := rSett_good hl
    generalize rSett r = x at *
    unfold gotR
    split
    · exact hz
    · split
      · exact hg
      · exact hz
  · exact ⟨⟨h1, h2, h3, h4, rOpt_lt r⟩, rfl⟩
theorem cSt_fit (l : List UInt8) (hl : ∀ k (hk : k < l.length), cLetter l[k].toNat) (z : Call) {r : Rs} (hr : r.s.length ≤ 9223372036854775807) (h : cFit z) (k : Nat) (hk : k ≤ l.length) : cFit (cSt l z r k).1 ∧ (cSt l z r k).1.proc = z.proc := by
  induction k with
  | zero => exact ⟨h, rfl⟩
  | succ k ih =>
    obtain ⟨e1, e2⟩ := ih (by omega)
    rw [cSt_succ _ _ _ _ (show k < l.length from hk)]
    obtain ⟨f1, f2⟩ := cTk_fit _ (hl k hk) (cSt l z r k).1 (cSt_len l z hr k (by omega)) e1
    exact ⟨f1, f2.trans e2⟩
theorem lettersC_nodup : ∀ s ∈ lettersC, s.Nodup := by decide
theorem cFields_nodup (p : Int) : (cFields p).Nodup := by
  unfold cFields
  split
  · exact List.nodup_nil
  · rcases Nat.lt_or_ge p.toNat lettersC.length with h | h
    · have he : lettersC.getD p.toNat [] = lettersC[p.toNat] := by simp [List.getD, List.getElem?_eq_getElem h]
      rw [he]
      exact lettersC_nodup _ (List.getElem_mem h)
    · simp [List.getD, List.getElem?_eq_none h]
/-- what is taken, laid once more, is the bytes -/
theorem cGet_same (p : Int) (s : List UInt8) (hs : s.length ≤ 9223372036854775807) (ht : cThere p = true) (h : (cGet p s).2 = 0) :
    s = cLaid (cGet p s).1 (cFields p) (cFields p).length ∧ cMayAll (cGet p s).1 (cFields p) = true ∧ (cGet p s).1.proc = p ∧ cFit (cGet p s).1 := by
  have hl : ∀ k (hk : k < (cFields p).length), cLetter (cFields p)[k].toNat := fun k hk => cFields_letter p hk
  have hn := cFields_nodup p
  have hnf : ¬ cThere p = false := by rw [ht]; simp
  have hf : cFit { callZ with proc := p } := ⟨show callZ.offset ≤ 9223372036854775807 by decide, show callZ.cookie ≤ 9223372036854775807 by decide, show callZ.verf ≤ 9223372036854775807 by decide, ⟨rfl, rfl, rfl, rfl, rfl⟩, show callZ.guard.n ≤ 9223372036854775807 by decide⟩
  have hp : ({ callZ with proc := p } : Call).proc = p := rfl
  unfold cGet at *
  rw [if_neg hnf] at *
  generalize cFields p = l at *
  generalize ({ callZ with proc := p } : Call) = z at *
  by_cases h1 : (∀ k, k < l.length → cStOk l z ⟨s, 0⟩ k = true) ∧ rDone (cSt l z ⟨s, 0⟩ l.length).2 = 0
  · rw [if_pos h1] at *
    obtain ⟨e1, e2, e3⟩ := cSt_same l hl hn z ⟨s, 0⟩ rfl h1.1 l.length (Nat.le_refl _)
    obtain ⟨f1, f2⟩ := cSt_fit l hl z (r := ⟨s, 0⟩) hs hf l.length (Nat.le_refl _)
    have hd := h1.2
    unfold rDone at hd
    rw [if_neg (by simpa using e2)] at hd
    have hz : (cSt l z ⟨s, 0⟩ l.length).2.s = [] := by
      apply List.eq_nil_of_length_eq_zero
      apply Classical.byContradiction
      intro hc
      rw [if_pos (by omega)] at hd; cases hd
    rw [hz, List.append_nil] at e1
    refine ⟨e1, List.all_eq_true.2 fun c hc => ?_, f2.trans hp, f1⟩
    obtain ⟨j, hj, rfl⟩ := List.getElem_of_mem hc
    exact e3 j hj
  · rw [if_neg h1] at h; cases h
theorem cGet_errs (p : Int) (s : List UInt8) (ht : cThere p = true) : (cGet p s).2 = 0 ∨ cGet p s = (callZ, 14) := by
  rw [cGet_d p s ht]
  split
  · exact .inl rfl
  · exact .inr rfl
/-- a beginning of a call's bytes is no call's bytes -/
theorem cGet_cut (x : Call) (hc : cCheck x = 0) (s t : List UInt8) (hst : cLaid x (cFields x.proc) (cFields x.proc).length = s ++ t) (hs : s.length ≤ 9223372036854775807) (ht : t ≠ []) (hgo : x.offset ≤ 9223372036854775807) (hgk : x.cookie ≤ 9223372036854775807) (hgv : x.verf ≤ 9223372036854775807) (hgg : x.guard.n ≤ 9223372036854775807) :
    cGet x.proc s = (callZ, 14) := by
  have hth : cThere x.proc = true := by
    unfold cCheck at hc
    cases h : cThere x.proc
    · rw [h] at hc; simp at hc
    · rfl
  rcases cGet_errs x.proc s hth with h | h
  · exfalso
    have hb := cGet_back x hc [] hgo hgk hgv hgg
    rw [if_pos rfl, List.append_nil, hst] at hb
    obtain ⟨e1, e2, e3, e4⟩ := cGet_same x.proc s hs hth h
    generalize (cGet x.proc s).1 = y at *
    have hl : ∀ k (hk : k < (cFields x.proc).length), cLetter (cFields x.proc)[k].toNat := fun k hk => cFields_letter x.proc hk
    have h2 := cSt_back y { callZ with proc := x.proc } _ hl e2 t e4.1 e4.2.1 e4.2.2.1 e4.2.2.2.2 _ (Nat.le_refl _)
    rw [cTail_end, List.nil_append, cTail_zero, ← e1] at h2
    unfold cGet at hb
    rw [if_neg (by rw [hth]; simp), h2] at hb
    rw [if_neg] at hb
    · cases hb
    · rintro ⟨_, h⟩
      simp only [rDone, ne_eq, not_true_eq_false, if_false] at h
      rw [if_pos (List.length_pos_iff.2 ht)] at h
      cases h
  · exact h
end Go.Proofs.YthfhdighniiodaaDoor
