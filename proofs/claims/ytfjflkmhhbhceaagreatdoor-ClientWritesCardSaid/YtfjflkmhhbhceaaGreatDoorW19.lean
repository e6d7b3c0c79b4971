/-
  Layer 7 in plain words: the document's Check is the program's.
-/
import Derived.Test.YtfjflkmhhbhceaaGreatDoorW18
import Derived.Test.YtfjflkmhhbhceaaGreatDoorW16
import Derived.Test.YtfjflkmhhbhceaaGreatDoorW17
namespace Go.Proofs.YtfjflkmhhbhceaaGreatDoor
open Go.RowKit

end Go.Proofs.YtfjflkmhhbhceaaGreatDoor

/-
  Layer 7, walks: with which error a call is refused. No condition.
-/
namespace Go.Proofs.YtfjflkmhhbhceaaGreatDoor
open Go.RowKit
end Go.Proofs.YtfjflkmhhbhceaaGreatDoor


/-
  Layer 7 in plain words: a call's bytes give the call back.
-/
namespace Go.Proofs.YtfjflkmhhbhceaaGreatDoor
open Go.RowKit

theorem cTk_back (x z : Call) (c : Nat) (hc : cLetter c) (hc2 : c ≠ 115) (rest : List UInt8) (hm : cMay x c = true) (hgo : x.offset ≤ 9223372036854775807) (hgk : x.cookie ≤ 9223372036854775807) (hgv : x.verf ≤ 9223372036854775807) (hgg : x.guard.n ≤ 9223372036854775807) :
    cTk c z ⟨cBytes x c ++ rest, 0⟩ = (cCopy z x c, ⟨rest, 0⟩) := by
  have ho := fun (s : List UInt8) (most : Int) (h : s.length ≤ 256) (hm : (s.length : Int) ≤ most) => rOpaque_back s rest most (by omega) hm
  rcases hc with rfl | rfl | rfl | rfl | rfl | rfl | rfl | rfl | rfl | rfl | rfl | rfl | rfl
  · have h : x.fh.length ≤ 64 := by simpa [cMay] using hm
    have e := ho x.fh 64 (by omega) (by omega)
    show (({ z with fh := (rOpaque 64 ⟨opq x.fh ++ rest, 0⟩).1 } : Call), (rOpaque 64 ⟨opq x.fh ++ rest, 0⟩).2) = _
    rw [e]; rfl
  · have h : x.fh2.length ≤ 64 := by simpa [cMay] using hm
    have e := ho x.fh2 64 (by omega) (by omega)
    show (({ z with fh2 := (rOpaque 64 ⟨opq x.fh2 ++ rest, 0⟩).1 } : Call), (rOpaque 64 ⟨opq x.fh2 ++ rest, 0⟩).2) = _
    rw [e]; rfl
  · have h : x.name.length ≤ 255 := by simpa [cMay] using hm
    have e := ho x.name 255 (by omega) (by omega)
    show (({ z with name := (rOpaque 255 ⟨opq x.name ++ rest, 0⟩).1 } : Call), (rOpaque 255 ⟨opq x.name ++ rest, 0⟩).2) = _
    rw [e]; rfl
  · have h : x.name2.length ≤ 255 := by simpa [cMay] using hm
    have e := ho x.name2 255 (by omega) (by omega)
    show (({ z with name2 := (rOpaque 255 ⟨opq x.name2 ++ rest, 0⟩).1 } : Call), (rOpaque 255 ⟨opq x.name2 ++ rest, 0⟩).2) = _
    rw [e]; rfl
  · have h : x.text.length ≤ 255 := by simpa [cMay] using hm
    have e := ho x.text 255 (by omega) (by omega)
    show (({ z with text := (rOpaque 255 ⟨opq x.text ++ rest, 0⟩).1 } : Call), (rOpaque 255 ⟨opq x.text ++ rest, 0⟩).2) = _
    rw [e]; rfl
  · have h : x.data.length ≤ 256 := by simpa [cMay] using hm
    have e := ho x.data 256 (by omega) (by omega)
    show (({ z with data := (rOpaque 256 ⟨opq x.data ++ rest, 0⟩).1 } : Call), (rOpaque 256 ⟨opq x.data ++ rest, 0⟩).2) = _
    rw [e]; rfl
  · have h : 0 ≤ x.offset := by simpa [cMay] using hm
    have e := rU64_back x.offset.toNat rest (by omega)
    show (({ z with offset := (rU64 ⟨num x.offset.toNat 8 ++ rest, 0⟩).1 } : Call), (rU64 ⟨num x.offset.toNat 8 ++ rest, 0⟩).2) = _
    rw [e]
    show (({ z with offset := (x.offset.toNat : Int) } : Call), (⟨rest, 0⟩ : Rs)) = _
    rw [Int.toNat_of_nonneg h]; rfl
  · have h : 0 ≤ x.cookie := by simpa [cMay] using hm
    have e := rU64_back x.cookie.toNat rest (by omega)
    show (({ z with cookie := (rU64 ⟨num x.cookie.toNat 8 ++ rest, 0⟩).1 } : Call), (rU64 ⟨num x.cookie.toNat 8 ++ rest, 0⟩).2) = _
    rw [e]
    show (({ z with cookie := (x.cookie.toNat : Int) } : Call), (⟨rest, 0⟩ : Rs)) = _
    rw [Int.toNat_of_nonneg h]; rfl
  · have h : 0 ≤ x.verf := by simpa [cMay] using hm
    have e := rU64_back x.verf.toNat rest (by omega)
    show (({ z with verf := (rU64 ⟨num x.verf.toNat 8 ++ rest, 0⟩).1 } : Call), (rU64 ⟨num x.verf.toNat 8 ++ rest, 0⟩).2) = _
    rw [e]
    show (({ z with verf := (x.verf.toNat : Int) } : Call), (⟨rest, 0⟩ : Rs)) = _
    rw [Int.toNat_of_nonneg h]; rfl
  · have h : 0 ≤ x.count ∧ x.count ≤ 4294967295 := by simpa [cMay] using hm
    have e := rU32_back x.count.toNat rest (by omega)
    show (({ z with count := (rU32 ⟨num x.count.toNat 4 ++ rest, 0⟩).1 } : Call), (rU32 ⟨num x.count.toNat 4 ++ rest, 0⟩).2) = _
    rw [e]
    show (({ z with count := (x.count.toNat : Int) } : Call), (⟨rest, 0⟩ : Rs)) = _
    rw [Int.toNat_of_nonneg h.1]; rfl
  · have h : 0 ≤ x.how ∧ x.how ≤ 4294967295 := by simpa [cMay] using hm
    have e := rU32_back x.how.toNat rest (by omega)
    show (({ z with how := (rU32 ⟨num x.how.toNat 4 ++ rest, 0⟩).1 } : Call), (rU32 ⟨num x.how.toNat 4 ++ rest, 0⟩).2) = _
    rw [e]
    show (({ z with how := (x.how.toNat : Int) } : Call), (⟨rest, 0⟩ : Rs)) = _
    rw [Int.toNat_of_nonneg h.1]; rfl
  · exact absurd rfl hc2
  · have h : 0 ≤ x.guard.n ∧ (x.guard.is = true ∨ x.guard.n = 0) := by simpa [cMay] using hm
    have e := rOpt_back x.guard.is x.guard.n rest (fun _ => h.1) hgg
    show (({ z with guard := optOf (rOpt ⟨optB x.guard.is x.guard.n ++ rest, 0⟩).1 } : Call), (rOpt ⟨optB x.guard.is x.guard.n ++ rest, 0⟩).2) = _
    rw [e]
    have eg : optOf (x.guard.is, if x.guard.is then x.guard.n.toNat else 0) = x.guard := by
      obtain ⟨⟨_, _⟩⟩ := (⟨x.guard⟩ : Nonempty Opt)
      unfold optOf
      rcases hi : x.guard with ⟨i, n⟩
      rw [hi] at h
      cases i
      · simp at h ⊢; omega
      · simp at h ⊢; omega
    show (({ z with guard := optOf (x.guard.is, if x.guard.is then x.guard.n.toNat else 0) } : Call), (⟨rest, 0⟩ : Rs)) = _
    rw [eg]; rfl
end Go.Proofs.YtfjflkmhhbhceaaGreatDoor


/-
  Layer 7 in plain words: what is to be set comes back (NOT BUILT YET: whnf does not end somewhere below).
-/
namespace Go.Proofs.YtfjflkmhhbhceaaGreatDoor
open Go.RowKit

theorem opt_back (o : Opt) (most : Int) (rest : List UInt8) (h : o.ok most = true) (hm : most ≤ 9223372036854775807) : rOpt ⟨o.bytes ++ rest, 0⟩ = ((o.is, o.n.toNat), ⟨rest, 0⟩) ∧ optOf (o.is, o.n.toNat) = o := by
  obtain ⟨i, n⟩ := o
  cases i
  · obtain rfl : n = 0 := by simpa [Opt.ok] using h
    exact ⟨rOpt_back false 0 rest (by simp) (by omega), rfl⟩
  · have h2 : 0 ≤ n ∧ n ≤ most := by simpa [Opt.ok, okN] using h
    refine ⟨(rOpt_back true n rest (fun _ => h2.1) (by omega)).trans (by simp), ?_⟩
    unfold optOf
    rw [Int.toNat_of_nonneg h2.1]
theorem set5 (a b c d e : Opt) : setOpt (setOpt (setOpt (setOpt (setOpt settZ a 0) b 1) c 2) d 3) e 4 = ⟨a, b, c, d, e⟩ := rfl
theorem settK_next {r0 r r' : Rs} {s : Sett} {o : Bool × Nat} (k : Nat) (h : settK k r0 = (s, r)) (ho : rOpt r = (o, r')) : settK (k + 1) r0 = (setOpt s (optOf o) k, r') := by
  rw [settK, h, ho]
theorem rSett_back (s : Sett) (rest : List UInt8) (h : s.ok = true) : rSett ⟨s.bytes ++ rest, 0⟩ = (s, ⟨rest, 0⟩) := by
  simp only [Sett.ok, Bool.and_eq_true] at h
  obtain ⟨h1, h2, h3, h4, h5⟩ := h
  have e1 := opt_back s.mode _ (s.uid.bytes ++ (s.gid.bytes ++ (s.size.bytes ++ (s.time.bytes ++ rest)))) h1 (by omega)
  have e2 := opt_back s.uid _ (s.gid.bytes ++ (s.size.bytes ++ (s.time.bytes ++ rest))) h2 (by omega)
  have e3 := opt_back s.gid _ (s.size.bytes ++ (s.time.bytes ++ rest)) h3 (by omega)
  have e4 := opt_back s.size _ (s.time.bytes ++ rest) h4 (by omega)
  have e5 := opt_back s.time _ rest h5 (by omega)
  have hb : s.bytes ++ rest = s.mode.bytes ++ (s.uid.bytes ++ (s.gid.bytes ++ (s.size.bytes ++ (s.time.bytes ++ rest)))) := by
    unfold Sett.bytes; simp only [List.append_assoc]
  rw [hb]
  clear h1 h2 h3 h4 h5 hb
  have k1 := settK_next 0 (r0 := ⟨s.mode.bytes ++ (s.uid.bytes ++ (s.gid.bytes ++ (s.size.bytes ++ (s.time.bytes ++ rest)))), 0⟩) (s := settZ) rfl e1.1
  have k5 := settK_next 4 (settK_next 3 (settK_next 2 (settK_next 1 k1 e2.1) e3.1) e4.1) e5.1
  rw [e1.2, e2.2, e3.2, e4.2, e5.2, set5] at k5
  exact k5
theorem cTk_s (z : Call) (r : Rs) : cTk 115 z r = ({ z with set := (gotR Sett.ok settZ (rSett r)).1 }, (rSett r).2) := rfl
theorem cTkOk_s (r : Rs) : cTkOk 115 r = ((gotR Sett.ok settZ (rSett r)).2 == 0) := rfl
theorem cBytes_s (x : Call) : cBytes x 115 = x.set.bytes := rfl
theorem cCopy_s (z x : Call) : cCopy z x 115 = { z with set := x.set } := rfl
theorem gotR_ok {s : Sett} {r : Rs} (hm : s.ok = true) (hr : r.e = 0) : gotR Sett.ok settZ (s, r) = (s, 0) := by
  unfold gotR
  rw [if_neg (by simpa using hr), if_pos hm]
theorem cTk_back_s (x z : Call) (rest : List UInt8) (hm : x.set.ok = true) : cTk 115 z ⟨cBytes x 115 ++ rest, 0⟩ = (cCopy z x 115, ⟨rest, 0⟩) ∧ cTkOk 115 ⟨cBytes x 115 ++ rest, 0⟩ = true := by
  have e := rSett_back x.set rest hm
  rw [cTk_s, cTkOk_s, cBytes_s, cCopy_s, e, gotR_ok hm rfl]
  exact ⟨rfl, rfl⟩
end Go.Proofs.YtfjflkmhhbhceaaGreatDoor


/-
  Layer 7 in plain words: a call's bytes give the call back, and no other bytes do. Conditions: machine numbers.
-/
namespace Go.Proofs.YtfjflkmhhbhceaaGreatDoor
open Go.RowKit

theorem cTk_rs (c : Nat) (hc : cLetter c) (z y : Call) (r : Rs) : (cTk c z r).2 = (cTk c y r).2 := by
  rcases hc with rfl | rfl | rfl | rfl | rfl | rfl | rfl | rfl | rfl | rfl | rfl | rfl | rfl <;> rfl
theorem cTkOk_e (c : Nat) (hc2 : c ≠ 115) (r : Rs) : cTkOk c r = ((cTk c callZ r).2.e == 0) := by
  unfold cTkOk; rw [if_neg hc2]
theorem cTk_back_any (x z : Call) (c : Nat) (hc : cLetter c) (rest : List UInt8) (hm : cMay x c = true) (hgo : x.offset ≤ 9223372036854775807) (hgk : x.cookie ≤ 9223372036854775807) (hgv : x.verf ≤ 9223372036854775807) (hgg : x.guard.n ≤ 9223372036854775807) :
    cTk c z ⟨cBytes x c ++ rest, 0⟩ = (cCopy z x c, ⟨rest, 0⟩) ∧ cTkOk c ⟨cBytes x c ++ rest, 0⟩ = true := by
  by_cases h : c = 115
  · subst h
    exact cTk_back_s x z rest hm
  · have e := cTk_back x z c hc h rest hm hgo hgk hgv hgg
    refine ⟨e, ?_⟩
    rw [cTkOk_e c h, cTk_rs c hc callZ z, e]; rfl
/-- the bytes of the letters from k on -/
def cTail (x : Call) (l : List UInt8) (k : Nat) : List UInt8 := (l.drop k).flatMap fun c => cBytes x c.toNat
theorem cTail_next (x : Call) (l : List UInt8) (k : Nat) (hk : k < l.length) : cTail x l k = cBytes x l[k].toNat ++ cTail x l (k + 1) := by
  unfold cTail; rw [List.drop_eq_getElem_cons hk, List.flatMap_cons]
theorem cTail_end (x : Call) (l : List UInt8) : cTail x l l.length = [] := by unfold cTail; simp
theorem cTail_zero (x : Call) (l : List UInt8) : cTail x l 0 = cLaid x l l.length := by unfold cTail cLaid; simp
theorem cSt_back (x z : Call) (l : List UInt8) (hl : ∀ k (hk : k < l.length), cLetter l[k].toNat) (hm : cMayAll x l = true) (rest : List UInt8) (hgo : x.offset ≤ 9223372036854775807) (hgk : x.cookie ≤ 9223372036854775807) (hgv : x.verf ≤ 9223372036854775807) (hgg : x.guard.n ≤ 9223372036854775807)
    (k : Nat) (hk : k ≤ l.length) : cSt l z ⟨cTail x l 0 ++ rest, 0⟩ k = (cTaken x l z k, ⟨cTail x l k ++ rest, 0⟩) := by
  induction k with
  | zero => rfl
  | succ k ih =>
    have hk' : k < l.length := hk
    have hmk : cMay x l[k].toNat = true := (List.all_eq_true.1 hm) _ (List.getElem_mem hk')
    rw [cSt_succ _ _ _ _ hk', ih (by omega), cTaken_succ _ _ _ _ hk', cTail_next x l k hk', List.append_assoc]
    exact (cTk_back_any x _ _ (hl k hk') _ hmk hgo hgk hgv hgg).1
theorem cStOk_at (l : List UInt8) (z : Call) (r : Rs) (k : Nat) (hk : k < l.length) : cStOk l z r k = cTkOk l[k].toNat (cSt l z r k).2 := by
  simp [cStOk, List.getD, List.getElem?_eq_getElem hk]
theorem cStOk_back (x z : Call) (l : List UInt8) (hl : ∀ k (hk : k < l.length), cLetter l[k].toNat) (hm : cMayAll x l = true) (rest : List UInt8) (hgo : x.offset ≤ 9223372036854775807) (hgk : x.cookie ≤ 9223372036854775807) (hgv : x.verf ≤ 9223372036854775807) (hgg : x.guard.n ≤ 9223372036854775807)
    (k : Nat) (hk : k < l.length) : cStOk l z ⟨cTail x l 0 ++ rest, 0⟩ k = true := by
  have hmk : cMay x l[k].toNat = true := (List.all_eq_true.1 hm) _ (List.getElem_mem hk)
  rw [cStOk_at _ _ _ _ hk, cSt_back x z l hl hm rest hgo hgk hgv hgg k (by omega), cTail_next x l k hk, List.append_assoc]
  exact (cTk_back_any x callZ _ (hl k hk) _ hmk hgo hgk hgv hgg).2
/-- a call that may be, from the bytes of it and what lies behind -/
theorem cGet_back (x : Call) (hc : cCheck x = 0) (rest : List UInt8) (hgo : x.offset ≤ 9223372036854775807) (hgk : x.cookie ≤ 9223372036854775807) (hgv : x.verf ≤ 9223372036854775807) (hgg : x.guard.n ≤ 9223372036854775807) :
    cGet x.proc (cLaid x (cFields x.proc) (cFields x.proc).length ++ rest) = if rest = [] then (x, 0) else (callZ, 14) := by
  unfold cCheck at hc
  have ht : cThere x.proc = true := by
    cases h : cThere x.proc
    · rw [h] at hc; simp at hc
    · rfl
  have hnf : ¬ cThere x.proc = false := by rw [ht]; simp
  rw [if_neg hnf] at hc
  by_cases hmt : cMayAll x (cFields x.proc) = true ∧ cTaken x (cFields x.proc) { callZ with proc := x.proc } (cFields x.proc).length = x
  · obtain ⟨hm, hT⟩ := hmt
    have hl : ∀ k (hk : k < (cFields x.proc).length), cLetter (cFields x.proc)[k].toNat := fun k hk => cFields_letter x.proc hk
    have hb := cSt_back x { callZ with proc := x.proc } _ hl hm rest hgo hgk hgv hgg _ (Nat.le_refl _)
    have hbk := fun k hk => cStOk_back x { callZ with proc := x.proc } _ hl hm rest hgo hgk hgv hgg k hk
    rw [cTail_end, List.nil_append, hT] at hb
    unfold cGet
    rw [if_neg hnf, ← cTail_zero, hb]
    by_cases hr : rest = []
    · rw [if_pos hr, if_pos ⟨hbk, by rw [hr]; rfl⟩]
    · rw [if_neg hr, if_neg]
      rintro ⟨_, h⟩
      simp only [rDone, ne_eq, not_true_eq_false, if_false] at h
      rw [if_pos (List.length_pos_iff.2 hr)] at h
      cases h
  · rw [if_neg hmt] at hc; cases hc

theorem settK_stick {k : Nat} {r : Rs} (h : r.e ≠ 0) : (settK k r).2 = r := by
  induction k with
  | zero => rfl
  | succ k ih => show (rOpt (settK k r).2).2 = r; rw [ih, rOpt_stick h]
theorem cTk_stick (c : Nat) (hc : cLetter c) (z : Call) {r : Rs} (h : r.e ≠ 0) : (cTk c z r).2 = r := by
  have e1 : ∀ n, (rOpaque n r).2 = r := fun n => by rw [rOpaque_stick h]
  have e2 : (rU64 r).2 = r := by rw [rU64_stick h]
  have e3 : (rU32 r).2 = r := by rw [rU32_stick h]
  have e4 : (rOpt r).2 = r := by rw [rOpt_stick h]
  rcases hc with rfl | rfl | rfl | rfl | rfl | rfl | rfl | rfl | rfl | rfl | rfl | rfl | rfl
  · exact e1 64
  · exact e1 64
  · exact e1 255
  · exact e1 255
  · exact e1 255
  · exact e1 256
  · exact e2
  · exact e2
  · exact e2
  · exact e3
  · exact e3
  · exact settK_stick (k := 5) h
  · exact e4
theorem cSt_stick (l : List UInt8) (hl : ∀ k (hk : k < l.length), cLetter l[k].toNat) (z : Call) (r : Rs) {k n : Nat} (hkn : k ≤ n) (hn : n ≤ l.length) (h : (cSt l z r n).2.e = 0) : (cSt l z r k).2.e = 0 := by
  induction n with
  | zero => obtain rfl : k = 0 := by omega
            exact h
  | succ n ih =>
    by_cases hk : k = n + 1
    · subst hk; exact h
    · refine ih (by omega) (by omega) ?_
      apply Classical.byContradiction
      intro hc
      rw [cSt_succ _ _ _ _ (show n < l.length from hn), cTk_stick _ (hl n hn) _ hc] at h
      exact hc h
theorem cGet_d (p : Int) (s : List UInt8) (ht : cThere p = true) : cGet p s = if (dGet p s).2 = true then ((dGet p s).1, 0) else (callZ, 14) := by
  have hl : ∀ k (hk : k < (cFields p).length), cLetter (cFields p)[k].toNat := fun k hk => cFields_letter p hk
  have hnf : ¬ cThere p = false := by rw [ht]; simp
  unfold cGet dGet
  rw [if_neg hnf]
  generalize cFields p = l at *
  generalize ({ callZ with proc := p } : Call) = z
  by_cases h1 : (∀ k (hk : k < l.length), l[k].toNat = 115 → cStOk l z ⟨s, 0⟩ k = true) ∧ (cSt l z ⟨s, 0⟩ l.length).2.e = 0 ∧ ¬ 0 < rLeft (cSt l z ⟨s, 0⟩ l.length).2
  · rw [if_pos h1, if_pos rfl, if_pos]
    obtain ⟨h1, h2, h3⟩ := h1
    refine ⟨fun k hk => ?_, ?_⟩
    · by_cases h : l[k].toNat = 115
      · exact h1 k hk h
      · rw [cStOk_at _ _ _ _ hk, cTkOk_e _ h, cTk_rs _ (hl k hk) callZ (cSt l z ⟨s, 0⟩ k).1, ← cSt_succ _ _ _ _ hk]
        have := cSt_stick l hl z ⟨s, 0⟩ (k := k + 1) hk (Nat.le_refl _) h2
        rw [this]; rfl
    · unfold rLeft at h3; unfold rDone
      rw [if_neg (by simpa using h2)] at *
      rw [if_neg h3]
  · have hn : ¬ ((∀ k, k < l.length → cStOk l z ⟨s, 0⟩ k = true) ∧ rDone (cSt l z ⟨s, 0⟩ l.length).2 = 0) := ?_
    · rw [if_neg h1, if_neg hn, if_neg (by simp)]
    rintro ⟨h2, h3⟩
    refine h1 ⟨fun k hk _ => h2 k hk, ?_⟩
    unfold rDone at h3
    by_cases he : (cSt l z ⟨s, 0⟩ l.length).2.e ≠ 0
    · rw [if_pos he] at h3; exact absurd h3 he
    · rw [if_neg he] at h3
      refine ⟨by simpa using he, ?_⟩
      unfold rLeft
      rw [if_neg he]
      intro h
      rw [if_pos h] at h3; cases h3
end Go.Proofs.YtfjflkmhhbhceaaGreatDoor
