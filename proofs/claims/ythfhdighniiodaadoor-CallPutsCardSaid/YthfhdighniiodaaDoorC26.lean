/-
  Layer 7 in plain words: what is taken, laid once more, is the bytes. Condition: a machine text.
-/
import Derived.Test.YthfhdighniiodaaDoorC25
import Derived.Test.YthfhdighniiodaaDoorC19
import Derived.Test.YthfhdighniiodaaDoorC07
namespace Go.Proofs.YthfhdighniiodaaDoor
open Go.RowKit

theorem Sett.upto_set (s : Sett) (o : Opt) {k : Nat} (hk : k < 5) : (setOpt s o k).upto (k + 1) = s.upto k ++ o.bytes := by
  match k, hk with
  | 0, _ | 1, _ | 2, _ | 3, _ | 4, _ => simp [Sett.upto, Sett.opt, setOpt]
theorem settK_same (r : Rs) (h0 : r.e = 0) {k : Nat} (hk : k ≤ 5) (h : (settK k r).2.e = 0) : r.s = (settK k r).1.upto k ++ (settK k r).2.s := by
  induction k with
  | zero => rfl
  | succ k ih =>
    have hs : (settK (k + 1) r).2 = (rOpt (settK k r).2).2 := rfl
    have hv : (settK (k + 1) r).1 = setOpt (settK k r).1 (optOf (rOpt (settK k r).2).1) k := rfl
    have he : (settK k r).2.e = 0 := by
      apply Classical.byContradiction
      intro hc
      rw [hs, rOpt_stick hc] at h
      exact hc h
    have e1 := ih (by omega) he
    rw [hs] at h
    have e2 := (rOpt_same he h).1
    rw [hv, hs, Sett.upto_set _ _ (by omega), List.append_assoc]
    show r.s = (settK k r).1.upto k ++ (optB (rOpt (settK k r).2).1.1 ((rOpt (settK k r).2).1.2 : Int) ++ (rOpt (settK k r).2).2.s)
    rw [← e2]; exact e1
theorem rSett_same {r : Rs} (h0 : r.e = 0) (h : (rSett r).2.e = 0) : r.s = (rSett r).1.bytes ++ (rSett r).2.s := by
  have := settK_same r h0 (Nat.le_refl 5) h
  rw [Sett.upto_five] at this
  exact this
theorem gotR_zero {α : Type} {ok : α → Bool} {n : α} {x : α × Rs} (h : ((gotR ok n x).2 == 0) = true) : x.2.e = 0 ∧ ok x.1 = true ∧ (gotR ok n x).1 = x.1 := by
  unfold gotR at *
  by_cases h1 : x.2.e ≠ 0
  · rw [if_pos h1] at h; exact absurd (by simpa using h) h1
  · rw [if_neg h1] at *
    by_cases h2 : ok x.1 = true
    · rw [if_pos h2]; exact ⟨by simpa using h1, h2, rfl⟩
    · rw [if_neg h2] at h; simp at h
theorem cTk_same (c : Nat) (hc : cLetter c) (z : Call) {r : Rs} (h0 : r.e = 0) (hk : cTkOk c r = true) :
    r.s = cBytes (cTk c z r).1 c ++ (cTk c z r).2.s ∧ (cTk c z r).2.e = 0 ∧ cMay (cTk c z r).1 c = true := by
  have ho : ∀ n : Int, (rOpaque n r).2.e = 0 → _ := fun n h => rOpaque_same (most := n) h0 h
  have hd : ∀ n : Nat, ((n : Int)).toNat = n := fun n => Int.toNat_natCast n
  rcases hc with rfl | rfl | rfl | rfl | rfl | rfl | rfl | rfl | rfl | rfl | rfl | rfl | rfl
  · have h : (rOpaque 64 r).2.e = 0 := eq_of_beq hk
    obtain ⟨e1, e2⟩ := ho 64 h
    exact ⟨e1, h, decide_eq_true (show (rOpaque 64 r).1.length ≤ 64 by omega)⟩
  · have h : (rOpaque 64 r).2.e = 0 := eq_of_beq hk
    obtain ⟨e1, e2⟩ := ho 64 h
    exact ⟨e1, h, decide_eq_true (show (rOpaque 64 r).1.length ≤ 64 by omega)⟩
  · have h : (rOpaque 255 r).2.e = 0 := eq_of_beq hk
    obtain ⟨e1, e2⟩ := ho 255 h
    exact ⟨e1, h, decide_eq_true (show (rOpaque 255 r).1.length ≤ 255 by omega)⟩
  · have h : (rOpaque 255 r).2.e = 0 := eq_of_beq hk
    obtain ⟨e1, e2⟩ := ho 255 h
    exact ⟨e1, h, decide_eq_true (show (rOpaque 255 r).1.length ≤ 255 by omega)⟩
  · have h : (rOpaque 255 r).2.e = 0 := eq_of_beq hk
    obtain ⟨e1, e2⟩ := ho 255 h
    exact ⟨e1, h, decide_eq_true (show (rOpaque 255 r).1.length ≤ 255 by omega)⟩
  · have h : (rOpaque 256 r).2.e = 0 := eq_of_beq hk
    obtain ⟨e1, e2⟩ := ho 256 h
    exact ⟨e1, h, decide_eq_true (show (rOpaque 256 r).1.length ≤ 256 by omega)⟩
  · have h : (rU64 r).2.e = 0 := eq_of_beq hk
    obtain ⟨e1, e2⟩ := rU64_same h0 h
    exact ⟨(congrArg (fun n => num n 8 ++ (rU64 r).2.s) (hd _)).symm ▸ e1, h, decide_eq_true (show (0 : Int) ≤ ((rU64 r).1 : Int) by omega)⟩
  · have h : (rU64 r).2.e = 0 := eq_of_beq hk
    obtain ⟨e1, e2⟩ := rU64_same h0 h
    exact ⟨(congrArg (fun n => num n 8 ++ (rU64 r).2.s) (hd _)).symm ▸ e1, h, decide_eq_true (show (0 : Int) ≤ ((rU64 r).1 : Int) by omega)⟩
  · have h : (rU64 r).2.e = 0 := eq_of_beq hk
    obtain ⟨e1, e2⟩ := rU64_same h0 h
    exact ⟨(congrArg (fun n => num n 8 ++ (rU64 r).2.s) (hd _)).symm ▸ e1, h, decide_eq_true (show (0 : Int) ≤ ((rU64 r).1 : Int) by omega)⟩
  · have h : (rU32 r).2.e = 0 := eq_of_beq hk
    obtain ⟨e1, e2⟩ := rU32_same h0 h
    exact ⟨(congrArg (fun n => num n 4 ++ (rU32 r).2.s) (hd _)).symm ▸ e1, h, (Bool.and_eq_true _ _).mpr ⟨decide_eq_true (show (0 : Int) ≤ ((rU32 r).1 : Int) by omega), decide_eq_true (show ((rU32 r).1 : Int) ≤ 4294967295 by omega)⟩⟩
  · have h : (rU32 r).2.e = 0 := eq_of_beq hk
    obtain ⟨e1, e2⟩ := rU32_same h0 h
    exact ⟨(congrArg (fun n => num n 4 ++ (rU32 r).2.s) (hd _)).symm ▸ e1, h, (Bool.and_eq_true _ _).mpr ⟨decide_eq_true (show (0 : Int) ≤ ((rU32 r).1 : Int) by omega), decide_eq_true (show ((rU32 r).1 : Int) ≤ 4294967295 by omega)⟩⟩
  · obtain ⟨h, h2, h3⟩ := gotR_zero (x := rSett r) hk
    have e1 := rSett_same h0 h
    rw [cTk_s, cBytes_s, h3]
    exact ⟨e1, h, h2⟩
  · have h : (rOpt r).2.e = 0 := eq_of_beq hk
    obtain ⟨e1, e2⟩ := rOpt_same h0 h
    refine ⟨e1, h, (Bool.and_eq_true _ _).mpr ⟨decide_eq_true (show (0 : Int) ≤ ((rOpt r).1.2 : Int) by omega), ?_⟩⟩
    show ((rOpt r).1.1 || ((rOpt r).1.2 : Int) == 0) = true
    rcases rOpt_not (r := r) with h | h <;> rw [h] <;> simp
set_option maxHeartbeats 4000000 in
theorem cTk_other (c d : Nat) (hc : cLetter c) (hd : cLetter d) (hne : c ≠ d) (z : Call) (r : Rs) : cBytes (cTk c z r).1 d = cBytes z d ∧ cMay (cTk c z r).1 d = cMay z d := by
  rcases hc with rfl | rfl | rfl | rfl | rfl | rfl | rfl | rfl | rfl | rfl | rfl | rfl | rfl <;>
  rcases hd with rfl | rfl | rfl | rfl | rfl | rfl | rfl | rfl | rfl | rfl | rfl | rfl | rfl <;>
  first | exact absurd rfl hne | exact ⟨rfl, rfl⟩
theorem cLaid_congr {x y : Call} {l : List UInt8} {k : Nat} (h : ∀ c ∈ l.take k, cBytes x c.toNat = cBytes y c.toNat) : cLaid x l k = cLaid y l k := by
  unfold cLaid
  generalize l.take k = m at *
  induction m with
  | nil => rfl
  | cons a m ih => rw [List.flatMap_cons, List.flatMap_cons, h a (by simp), ih (fun c hc => h c (by simp [hc]))]
theorem nodup_take {l : List UInt8} (hn : l.Nodup) {k j : Nat} (hk : k < l.length) (hj : j < k) : l[k] ≠ l[j]'(by omega) := by
  intro h
  exact (List.pairwise_iff_getElem.1 hn) j k (by omega) hk hj h.symm
theorem cSt_same (l : List UInt8) (hl : ∀ k (hk : k < l.length), cLetter l[k].toNat) (hn : l.Nodup) (z : Call) (r : Rs) (h0 : r.e = 0) (hok : ∀ k, k < l.length → cStOk l z r k = true) (k : Nat) (hk : k ≤ l.length) :
    r.s = cLaid (cSt l z r k).1 l k ++ (cSt l z r k).2.s ∧ (cSt l z r k).2.e = 0 ∧ ∀ j (hj : j < k), cMay (cSt l z r k).1 (l[j]'(by omega)).toNat = true := by
  induction k with
  | zero => exact ⟨rfl, h0, fun j hj => absurd hj (by omega)⟩
  | succ k ih =>
    have hk' : k < l.length := hk
    obtain ⟨e1, e2, e3⟩ := ih (by omega)
    have ho := hok k hk'
    rw [cStOk_at _ _ _ _ hk'] at ho
    obtain ⟨f1, f2, f3⟩ := cTk_same _ (hl k hk') (cSt l z r k).1 e2 ho
    rw [cSt_succ _ _ _ _ hk']
    have hoth : ∀ j (hj : j < k), _ := fun j hj => cTk_other l[k].toNat (l[j]'(by omega)).toNat (hl k hk') (hl j (by omega)) (fun h => nodup_take hn hk' hj (UInt8.toNat_inj.1 h)) (cSt l z r k).1 (cSt l z r k).2
    generalize cTk l[k].toNat (cSt l z r k).1 (cSt l z r k).2 = y at *
    refine ⟨?_, f2, ?_⟩
    · rw [cLaid_succ _ _ _ hk', List.append_assoc, ← f1, cLaid_congr (y := (cSt l z r k).1)]
      · exact e1
      · intro c hc
        obtain ⟨j, hj, rfl⟩ := List.getElem_of_mem hc
        have hj2 : j < k := by rw [List.length_take] at hj; omega
        rw [List.getElem_take]
        exact (hoth j hj2).1
    · intro j hj
      by_cases hjk : j = k
      · subst hjk; exact f3
      · rw [(hoth j (by omega)).2]; exact e3 j (by omega)
/-- machine numbers -/
def cFit (x : Call) : Prop := x.offset ≤ 9223372036854775807 ∧ x.cookie ≤ 9223372036854775807 ∧ x.verf ≤ 9223372036854775807 ∧ x.set.good ∧ x.guard.n ≤ 9223372036854775807
theorem cTk_fit (c : Nat) (hc : cLetter c) (z : Call) {r : Rs} (hl : r.s.length ≤ 9223372036854775807) (h : cFit z) : cFit (cTk c z r).1 ∧ (cTk c z r).1.proc = z.proc := by
  obtain ⟨h1, h2, h3, h4, h5⟩ := h
  have e8 := rU64_lt r
  rcases hc with rfl | rfl | rfl | rfl | rfl | rfl | rfl | rfl | rfl | rfl | rfl | rfl | rfl
  · exact ⟨⟨h1, h2, h3, h4, h5⟩, rfl⟩
  · exact ⟨⟨h1, h2, h3, h4, h5⟩, rfl⟩
  · exact ⟨⟨h1, h2, h3, h4, h5⟩, rfl⟩
  · exact ⟨⟨h1, h2, h3, h4, h5⟩, rfl⟩
  · exact ⟨⟨h1, h2, h3, h4, h5⟩, rfl⟩
  · exact ⟨⟨h1, h2, h3, h4, h5⟩, rfl⟩
  · exact ⟨⟨e8, h2, h3, h4, h5⟩, rfl⟩
  · exact ⟨⟨h1, e8, h3, h4, h5⟩, rfl⟩
  · exact ⟨⟨h1, h2, e8, h4, h5⟩, rfl⟩
  · exact ⟨⟨h1, h2, h3, h4, h5⟩, rfl⟩
  · exact ⟨⟨h1, h2, h3, h4, h5⟩, rfl⟩
  · refine ⟨⟨h1, h2, h3, ?_, h5⟩, rfl⟩
    rw [cTk_s]
    show (gotR Sett.ok settZ (rSett r)).1.good
    have hz : settZ.good := ⟨rfl, rfl, rfl, rfl, rfl⟩
    have hg := rSett_good hl
    generalize rSett r = x at *
    unfold gotR
    split
    · exact hz
    · split
      · exact hg
      · exact hz
  · exact ⟨⟨h1, h2, h3, h4, rOpt_lt r⟩, rfl⟩
theorem cSt_fit (l : List UInt8) (hl : ∀ k (hk : k < l.length), cLetter l[k].toNat) (z : Call) {r : Rs} (hr : r.s.length ≤ 9223372036854775807) (h : cFit z) (k : Nat) (hk : k ≤ l.length) : cFit (cSt l z r k).1 ∧ (cSt l z r k).1.proc = z.proc := by
  induction k with
  | zero => exact ⟨h, rfl⟩
  | succ k ih =>
    obtain ⟨e1, e2⟩ := ih (by omega)
    rw [cSt_succ _ _ _ _ (show k < l.length from hk)]
    obtain ⟨f1, f2⟩ := cTk_fit _ (hl k hk) (cSt l z r k).1 (cSt_len l z hr k (by omega)) e1
    exact ⟨f1, f2.trans e2⟩
theorem lettersC_nodup : ∀ s ∈ lettersC, s.Nodup := by decide
theorem cFields_nodup (p : Int) : (cFields p).Nodup := by
  unfold cFields
  split
  · exact List.nodup_nil
  · rcases Nat.lt_or_ge p.toNat lettersC.length with h | h
    · have he : lettersC.getD p.toNat [] = lettersC[p.toNat] := by simp [List.getD, List.getElem?_eq_getElem h]
      rw [he]
      exact lettersC_nodup _ (List.getElem_mem h)
    · simp [List.getD, List.getElem?_eq_none h]
/-- what is taken, laid once more, is the bytes -/
theorem cGet_same (p : Int) (s : List UInt8) (hs : s.length ≤ 9223372036854775807) (ht : cThere p = true) (h : (cGet p s).2 = 0) :
    s = cLaid (cGet p s).1 (cFields p) (cFields p).length ∧ cMayAll (cGet p s).1 (cFields p) = true ∧ (cGet p s).1.proc = p ∧ cFit (cGet p s).1 := by
  have hl : ∀ k (hk : k < (cFields p).length), cLetter (cFields p)[k].toNat := fun k hk => cFields_letter p hk
  have hn := cFields_nodup p
  have hnf : ¬ cThere p = false := by rw [ht]; simp
  have hf : cFit { callZ with proc := p } := ⟨show callZ.offset ≤ 9223372036854775807 by decide, show callZ.cookie ≤ 9223372036854775807 by decide, show callZ.verf ≤ 9223372036854775807 by decide, ⟨rfl, rfl, rfl, rfl, rfl⟩, show callZ.guard.n ≤ 9223372036854775807 by decide⟩
  have hp : ({ callZ with proc := p } : Call).proc = p := rfl
  unfold cGet at *
  rw [if_neg hnf] at *
  generalize cFields p = l at *
  generalize ({ callZ with proc := p } : Call) = z at *
  by_cases h1 : (∀ k, k < l.length → cStOk l z ⟨s, 0⟩ k = true) ∧ rDone (cSt l z ⟨s, 0⟩ l.length).2 = 0
  · rw [if_pos h1] at *
    obtain ⟨e1, e2, e3⟩ := cSt_same l hl hn z ⟨s, 0⟩ rfl h1.1 l.length (Nat.le_refl _)
    obtain ⟨f1, f2⟩ := cSt_fit l hl z (r := ⟨s, 0⟩) hs hf l.length (Nat.le_refl _)
    have hd := h1.2
    unfold rDone at hd
    rw [if_neg (by simpa using e2)] at hd
    have hz : (cSt l z ⟨s, 0⟩ l.length).2.s = [] := by
      apply List.eq_nil_of_length_eq_zero
      apply Classical.byContradiction
      intro hc
      rw [if_pos (by omega)] at hd; cases hd
    rw [hz, List.append_nil] at e1
    refine ⟨e1, List.all_eq_true.2 fun c hc => ?_, f2.trans hp, f1⟩
    obtain ⟨j, hj, rfl⟩ := List.getElem_of_mem hc
    exact e3 j hj
  · rw [if_neg h1] at h; cases h
theorem cGet_errs (p : Int) (s : List UInt8) (ht : cThere p = true) : (cGet p s).2 = 0 ∨ cGet p s = (callZ, 14) := by
  rw [cGet_d p s ht]
  split
  · exact .inl rfl
  · exact .inr rfl
/-- a beginning of a call's bytes is no call's bytes -/
theorem cGet_cut (x : Call) (hc : cCheck x = 0) (s t : List UInt8) (hst : cLaid x (cFields x.proc) (cFields x.proc).length = s ++ t) (hs : s.length ≤ 9223372036854775807) (ht : t ≠ []) (hgo : x.offset ≤ 9223372036854775807) (hgk : x.cookie ≤ 9223372036854775807) (hgv : x.verf ≤ 9223372036854775807) (hgg : x.guard.n ≤ 9223372036854775807) :
    cGet x.proc s = (callZ, 14) := by
  have hth : cThere x.proc = true := by
    unfold cCheck at hc
    cases h : cThere x.proc
    · rw [h] at hc; simp at hc
    · rfl
  rcases cGet_errs x.proc s hth with h | h
  · exfalso
    have hb := cGet_back x hc [] hgo hgk hgv hgg
    rw [if_pos rfl, List.append_nil, hst] at hb
    obtain ⟨e1, e2, e3, e4⟩ := cGet_same x.proc s hs hth h
    generalize (cGet x.proc s).1 = y at *
    have hl : ∀ k (hk : k < (cFields x.proc).length), cLetter (cFields x.proc)[k].toNat := fun k hk => cFields_letter x.proc hk
    have h2 := cSt_back y { callZ with proc := x.proc } _ hl e2 t e4.1 e4.2.1 e4.2.2.1 e4.2.2.2.2 _ (Nat.le_refl _)
    rw [cTail_end, List.nil_append, cTail_zero, ← e1] at h2
    unfold cGet at hb
    rw [if_neg (by rw [hth]; simp), h2] at hb
    rw [if_neg] at hb
    · cases hb
    · rintro ⟨_, h⟩
      simp only [rDone, ne_eq, not_true_eq_false, if_false] at h
      rw [if_pos (List.length_pos_iff.2 ht)] at h
      cases h
  · exact h
end Go.Proofs.YthfhdighniiodaaDoor

/-
  Layer 7, walks: a call's bytes. Conditions: the call's numbers are machine numbers.
-/
namespace Go.Proofs.YthfhdighniiodaaDoor
open Go.RowKit
attribute [local go_sem ↓] Go.wp_at_zero Go.wp_at_succ
attribute [local go_sem] rowAt_ptr rowOf_drew rowOf_drewN rowOf_alloc_past rowOf_new
attribute [local go_sem ↓] ldSet ldOpt ldCall

attribute [local go_sem] Call.at0 Call.lat0 Call.at1 Call.lat1 Call.at2 Call.lat2 Call.at3 Call.lat3 Call.at4 Call.lat4 Call.at5 Call.lat5 Call.at6 Call.lat6 Call.at7 Call.lat7 Call.at8 Call.lat8 Call.at9 Call.lat9 Call.at10 Call.lat10 Call.at11 Call.lat11 Call.at12 Call.lat12 Call.at13 Call.lat13 Call.at14 Call.lat14 Call.at15 Call.lat15 Call.at16 Call.lat16 Call.at17 Call.lat17 Call.at18 Call.lat18 Call.at19 Call.lat19 Call.at20 Call.lat20 Call.at21 Call.lat21 Call.at22 Call.lat22 Call.at23 Call.lat23 Call.sub0_24 Call.lsub0_24 Call.sub9_10 Call.lsub9_10 Call.sub9_2 Call.lsub9_2 Call.sub11_2 Call.lsub11_2 Call.sub13_2 Call.lsub13_2 Call.sub15_2 Call.lsub15_2 Call.sub17_2 Call.lsub17_2 Call.sub19_2 Call.lsub19_2 Call.len Sett.at0 Sett.lat0 Sett.at1 Sett.lat1 Sett.at2 Sett.lat2 Sett.at3 Sett.lat3 Sett.at4 Sett.lat4 Sett.at5 Sett.lat5 Sett.at6 Sett.lat6 Sett.at7 Sett.lat7 Sett.at8 Sett.lat8 Sett.at9 Sett.lat9 Sett.sub0_10 Sett.lsub0_10 Sett.sub0_2 Sett.lsub0_2 Sett.sub2_2 Sett.lsub2_2 Sett.sub4_2 Sett.lsub4_2 Sett.sub6_2 Sett.lsub6_2 Sett.sub8_2 Sett.lsub8_2 Sett.len Opt.at0 Opt.lat0 Opt.at1 Opt.lat1 Opt.sub0_2 Opt.lsub0_2 Opt.len

set_option maxRecDepth 20000 in
set_option maxHeartbeats 400000 in
theorem put7_any (x : Call) (w : World) (hgo : x.offset ≤ 9223372036854775807) (hgk : x.cookie ≤ 9223372036854775807) (hgv : x.verf ≤ 9223372036854775807) (hgs : x.set.good) (hgg : x.guard.n ≤ 9223372036854775807) :
    Calls Tryd.prog 29 #[.agg x.vals.toArray] w fun e w' => e = .returned (.tuple #[.string (bs (cPut x).1), .int .i64 (cPut x).2]) ∧ Below w.heap.size w w' := by
  have hb := Blk.new w 57 x.vals
  have hB : Below w.heap.size w (w.alloc (.cells x.vals.toArray 57)) := (Below.refl _ _).alloc (Nat.le_refl _) _
  have rX : rowOf (w.alloc (.cells x.vals.toArray 57)) w.heap.size 0 24 = some x.vals.toArray := hb.row 0 24 (by simp [Call.len])
  have hcf : ∀ args W, (callFunc 71 args).run Tryd.prog W = .ok (.enter 71 args) W := fun args W => by kernel_rfl
  by_cases hck : cCheck x = 0
  · have HS := Lib.hid (show cPut x = (cLaid x (cFields x.proc) (cFields x.proc).length, 0) by simp [cPut, hck])
    have hma := cCheck_fine hck
    go_enter Tryd.func29, Tryd.ntmps29
    go_wp2_with fail
    refine (check7_any x _).mono ?_
    rintro e w1 ⟨rfl, hb1⟩
    rw [hck]
    have hX := hb.stays hb1
    have hB1 := below_then hB hb1
    clear rX hb hB
    have hW := Wr.fresh w1
    have hX2 := hX.alloc (.cells #[.slice none 0 0] 87)
    have hB2 := hB1.alloc hB1.size (.cells #[.slice none 0 0] 87)
    have hs2 : (w1.alloc (.cells #[.slice none 0 0] 87)).heap.size = w1.heap.size + 1 := by simp
    have hW3 := hW.alloc (.cells #[ptr w1.heap.size] 84)
    have hX3 := hX2.alloc (.cells #[ptr w1.heap.size] 84)
    have hB3 := hB2.alloc hB2.size (.cells #[ptr w1.heap.size] 84)
    have hH3 := Blk.new (w1.alloc (.cells #[.slice none 0 0] 87)) 84 [ptr w1.heap.size]
    rw [hs2] at hH3
    have hlt : w.heap.size < w1.heap.size := Nat.lt_of_lt_of_le (by simp) hb1.size
    have hcX := hX.cell
    have HX := Lib.hid hX3
    have HW3 := Lib.hid hW3
    have HB := Lib.hid hB3
    have HH3 := Lib.hid hH3
    clear hX3 hW3 hB3 hH3 hX2 hB2 hs2 hW hX hB1 hb1
    go_wp2_with fail
    have hl := fun k (hk : k < (cFields x.proc).length) => cFields_letter x.proc hk
    have hlen := cLaid_len x (cFields x.proc) hma hl
    have hsh := cFields_short x.proc
    change Calls _ _ #[_, .func (.func _) #[] [ptr (w1.heap.size + 1), ptr w.heap.size].toArray] _ _
    refine (each_any x.proc 71 [ptr (w1.heap.size + 1), ptr w.heap.size] _ (fun _ => true) (Laying w w1.heap.size (w1.heap.size + 1) w.heap.size x (cFields x.proc)) hcf ?_ ?_ ?_).mono ?_
    · exact fun W h => ⟨⟨.slice none 0 0, HW3.out.stays h, by simp [Value.ownBlock]⟩, HH3.out.stays h, HX.out.stays h, below_then HB.out h⟩
    · exact fun k W b l pos pos' hb h hI => by
        obtain ⟨⟨sv, hW, hrow⟩, hH, hX, hB⟩ := h
        refine ⟨⟨sv, ?_, hrow⟩, hH.farIter (hH.ne_itr hI) _ _, hX.farIter (hX.ne_itr hI) _ _, Below.setIter hB (Nat.le_trans HB.out.size hb) _ _⟩
        exact hW.touch ((Touch.refl (fun k => k = b) W).setIter (.inl rfl) _ _) fun k hf e => hW.foot_ne_itr hI (e ▸ hf)
    · intro k hk W hS
      exact put1_any w _ _ _ (Nat.le_of_lt hlt) x _ k hk (hl k hk) (by
        rw [cMayAll, List.all_eq_true] at hma
        exact hma _ (List.getElem_mem hk)) hgo hgk hgv hgs hgg (by have := hlen k (Nat.le_of_lt hk); omega) W hS
    · rintro e w5 ⟨m, hS, hcase⟩
      rcases hcase with ⟨rfl, hall, rfl⟩ | ⟨j, rfl, hj, hok, hbad, rfl⟩
      · obtain ⟨⟨sv, hW, hrow⟩, hH, hX, hB⟩ := hS
        have hcH := hH.cell
        clear hX hcX hlen hl hma hH HX HW3 HB HH3 hall hsh
        generalize cLaid x (cFields x.proc) (cFields x.proc).length = l at *
        go_wp2_with fail
        refine (wText_any _ sv _ _ hW).mono ?_
        rintro e w6 ⟨rfl, rfl⟩
        go_wp2
        go_ret2
        rw [HS.out]
        exact ⟨rfl, hB⟩
      · cases hbad
  · have HS := Lib.hid (show cPut x = ([], cCheck x) by simp [cPut, hck])
    have h1 : ((cCheck x != 0) = true) := by simpa using hck
    have hc6 := fun W => check7_any x W
    generalize cCheck x = n at *
    go_enter Tryd.func29, Tryd.ntmps29
    go_wp2_with fail
    refine (hc6 _).mono ?_
    rintro e w1 ⟨rfl, hb1⟩
    go_wp2
    go_ret2
    rw [HS.out]
    exact ⟨rfl, below_then hB hb1⟩
end Go.Proofs.YthfhdighniiodaaDoor


/-
  Layer 7, walks: what must come of fixed calls; the law CallFields. No condition.
-/
namespace Go.Proofs.YthfhdighniiodaaDoor
open Go.RowKit
attribute [local go_sem ↓] Go.wp_at_zero Go.wp_at_succ
attribute [local go_sem] rowAt_ptr rowOf_drew rowOf_drewN rowOf_alloc_past rowOf_new

def knownCall : Call := ⟨3, [104], [97], [], [], 0, 0, 0, [], ⟨⟨false, 0⟩, ⟨false, 0⟩, ⟨false, 0⟩, ⟨false, 0⟩, ⟨false, 0⟩⟩, ⟨false, 0⟩, 0, 0, []⟩
theorem cPut_known : cPut knownCall = ([0, 0, 0, 1, 104, 0, 0, 0, 0, 0, 0, 1, 97, 0, 0, 0], 0) := by kernel_rfl
theorem cFields_write : cFields 7 = [102, 111, 104, 100] := by kernel_rfl

set_option maxHeartbeats 400000 in
theorem known7_any (w : World) : Calls Tryd.prog 28 #[] w fun e w' => e = .returned (.bool true) ∧ Below w.heap.size w w' := by
  have hp := fun w => put7_any knownCall w (by decide) (by decide) (by decide) ⟨rfl, rfl, rfl, rfl, rfl⟩ (by decide)
  rw [cPut_known] at hp
  have hf := fun w => callFields_any 7 w
  rw [cFields_write] at hf
  go_enter Tryd.func28, Tryd.ntmps28
  go_wp2_with fail
  refine (hp _).mono ?_
  rintro e w1 ⟨rfl, hb1⟩
  go_wp2_with fail
  refine (hf _).mono ?_
  rintro e w2 ⟨rfl, hb2⟩
  go_wp2
  go_ret
  exact ⟨rfl, below_then hb1 hb2⟩

end Go.Proofs.YthfhdighniiodaaDoor


/-
  Layer 5, walks: the bytes of what is to be set. No condition.
-/
namespace Go.Proofs.YthfhdighniiodaaDoor
open Go.RowKit
attribute [local go_sem ↓] Go.wp_at_zero Go.wp_at_succ ldOpt ldSet

attribute [local go_sem] rowAt_ptr rowOf_drew rowOf_drewN

theorem add_bs (a b : List UInt8) (h : a.length + b.length ≤ 9223372036854775807) : Op.stringOp .add (bs a) (bs b) = pure (.string (bs (a ++ b))) := by
  have h2 : ¬ (((bs a).size + (bs b).size : Nat) : Int) > IntKind.i64.max := by
    rw [bs_size, bs_size]
    show ¬ (((a.length + b.length : Nat) : Int) > 9223372036854775807)
    omega
  simp only [Op.stringOp]
  rw [if_neg h2, bs_append]
attribute [local go_sem ↓] add_bs

set_option maxHeartbeats 3200000 in
theorem setBytes_any (s : Sett) (w : World) (hs : s.ok = true) (hg : s.good) :
    Calls Tryd.prog 81 #[.agg s.vals.toArray] w fun e w' => e = .returned (.string (bs s.bytes)) ∧ Below w.heap.size w w' := by
  have hb0 := Blk.new w 55 s.vals
  have hB0 : Below w.heap.size w (w.alloc (.cells s.vals.toArray 55)) := (Below.refl _ _).alloc (Nat.le_refl _) _
  have hz : w.heap.size < (w.alloc (.cells s.vals.toArray 55)).heap.size := by simp
  obtain ⟨-, r0, r1, r2, r3, r4⟩ := settRows hb0
  obtain ⟨p0, p1, p2, p3, p4⟩ := Sett.ok_pos hs
  obtain ⟨g0, g1, g2, g3, g4⟩ := hg
  have g0 : s.mode.n ≤ 9223372036854775807 := (Go.bounds_i64 g0).2
  have g1 : s.uid.n ≤ 9223372036854775807 := (Go.bounds_i64 g1).2
  have g2 : s.gid.n ≤ 9223372036854775807 := (Go.bounds_i64 g2).2
  have g3 : s.size.n ≤ 9223372036854775807 := (Go.bounds_i64 g3).2
  have g4 : s.time.n ≤ 9223372036854775807 := (Go.bounds_i64 g4).2
  have l0 := s.mode.bytes_len
  have l1 := s.uid.bytes_len
  have l2 := s.gid.bytes_len
  have l3 := s.size.bytes_len
  have l4 := s.time.bytes_len
  have f0 : s.mode.bytes.length + s.uid.bytes.length ≤ 9223372036854775807 := by omega
  have f1 : s.mode.bytes.length + s.uid.bytes.length + s.gid.bytes.length ≤ 9223372036854775807 := by omega
  have f2 : s.mode.bytes.length + s.uid.bytes.length + s.gid.bytes.length + s.size.bytes.length ≤ 9223372036854775807 := by omega
  have f3 : s.mode.bytes.length + s.uid.bytes.length + s.gid.bytes.length + s.size.bytes.length + s.time.bytes.length ≤ 9223372036854775807 := by omega
  have e1 : (s.mode.bytes ++ s.uid.bytes).length + s.gid.bytes.length ≤ 9223372036854775807 := by simp; omega
  have e2 : (s.mode.bytes ++ s.uid.bytes ++ s.gid.bytes).length + s.size.bytes.length ≤ 9223372036854775807 := by simp; omega
  have e3 : (s.mode.bytes ++ s.uid.bytes ++ s.gid.bytes ++ s.size.bytes).length + s.time.bytes.length ≤ 9223372036854775807 := by simp; omega
  have d2 : s.mode.bytes.length + (s.uid.bytes.length + s.gid.bytes.length) + s.size.bytes.length ≤ 9223372036854775807 := by omega
  have d3 : s.mode.bytes.length + (s.uid.bytes.length + (s.gid.bytes.length + s.size.bytes.length)) + s.time.bytes.length ≤ 9223372036854775807 := by omega
  clear hb0 l0 l1 l2 l3 l4
  go_enter Tryd.func81, Tryd.ntmps81
  go_wp2_with fail
  generalize w.alloc (.cells s.vals.toArray 55) = w1 at *
  go_region_held3 (fun W => Stb w1 W) (first | exact Stb.start | assumption | (exact Stb.alloc (by assumption) _) | (exact Stb.call (by assumption) (by assumption))) (first
    | (go_at_call 82; refine (refOptO_any _ _ (by assumption) (by assumption)).mono ?_; rintro e w2 ⟨rfl, hb⟩))
  have hs5 : Stb w1 w2 := by assumption
  go_wp2
  go_ret
  exact ⟨ret_string (by simp [Sett.bytes]), below_then hB0 hs5.below⟩
end Go.Proofs.YthfhdighniiodaaDoor
