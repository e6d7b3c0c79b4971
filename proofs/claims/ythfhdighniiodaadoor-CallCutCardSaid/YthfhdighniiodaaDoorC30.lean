/-
  Layer 1 in plain words: what was refused stays refused; numbers that were read are machine numbers. No condition.
-/
import Derived.Test.YthfhdighniiodaaDoorC27
import Derived.Test.YthfhdighniiodaaDoorC15
import Derived.Test.YthfhdighniiodaaDoorC28
import Derived.Test.YthfhdighniiodaaDoorC29
namespace Go.Proofs.YthfhdighniiodaaDoor
open Go.RowKit

-- what is refused stays refused
theorem rNum_stick {k : Nat} {r : Rs} (h : r.e ≠ 0) : rNum k r = (0, r) := by unfold rNum; rw [if_pos h]
theorem rU32_stick {r : Rs} (h : r.e ≠ 0) : rU32 r = (0, r) := rNum_stick h
theorem rU64_stick {r : Rs} (h : r.e ≠ 0) : rU64 r = (0, r) := by unfold rU64; rw [rNum_stick h]; simp
theorem rBool_stick {r : Rs} (h : r.e ≠ 0) : rBool r = (false, r) := by unfold rBool; rw [rU32_stick h]; simp
theorem rOpt_stick {r : Rs} (h : r.e ≠ 0) : rOpt r = ((false, 0), r) := by unfold rOpt; rw [rBool_stick h]; simp
theorem rOpaque_stick {n : Int} {r : Rs} (h : r.e ≠ 0) : rOpaque n r = ([], r) := by unfold rOpaque; rw [rU32_stick h, if_pos h]
theorem rOne_stick {b : Bool} {r : Rs} (h : r.e ≠ 0) : (rOne b r).2 = r := by
  cases b
  · show (rU32 r).2 = r
    rw [rU32_stick h]
  · show (rU64 r).2 = r
    rw [rU64_stick h]
theorem rMany_stick (l : List Bool) {r : Rs} (h : r.e ≠ 0) : (rMany l r).2 = r := by
  induction l with
  | nil => rfl
  | cons b l ih => show (rMany l (rOne b r).2).2 = r; rw [rOne_stick h]; exact ih
theorem rU64_lt (r : Rs) : ((rU64 r).1 : Int) ≤ 9223372036854775807 := by
  unfold rU64
  split
  · exact Int.le_of_lt_add_one (by decide)
  · omega
theorem rOpt_lt (r : Rs) : ((rOpt r).1.2 : Int) ≤ 9223372036854775807 := by
  unfold rOpt
  split
  · split
    · show ((0 : Nat) : Int) ≤ _
      omega
    · exact rU64_lt _
  · show ((0 : Nat) : Int) ≤ _
    omega
theorem rOpt_not {r : Rs} : (rOpt r).1.1 = true ∨ (rOpt r).1.2 = 0 := by
  unfold rOpt
  split
  · split
    · exact .inr rfl
    · exact .inl rfl
  · exact .inr rfl
theorem rDone_zero {r : Rs} (h : rDone r = 0) : r.e = 0 ∧ r.s = [] := by
  unfold rDone at h
  by_cases he : r.e ≠ 0
  · rw [if_pos he] at h; exact absurd h he
  · rw [if_neg he] at h
    refine ⟨by simpa using he, ?_⟩
    apply List.eq_nil_of_length_eq_zero
    apply Classical.byContradiction
    intro hc
    rw [if_pos (by omega)] at h; cases h
theorem rDone_rest {s : List UInt8} (h : s ≠ []) : rDone ⟨s, 0⟩ = 12 := by
  simp only [rDone, ne_eq, not_true_eq_false, if_false]
  rw [if_pos (List.length_pos_iff.2 h)]
theorem rDone_left {r : Rs} : rDone r = 0 ↔ r.e = 0 ∧ ¬ 0 < rLeft r := by
  unfold rDone rLeft
  by_cases he : r.e ≠ 0
  · rw [if_pos he, if_pos he]; simp [he]
  · rw [if_neg he, if_neg he]
    have he' : r.e = 0 := by simpa using he
    by_cases h : 0 < r.s.length
    · rw [if_pos h]; exact ⟨fun h2 => absurd h2 (by decide), fun h2 => absurd h h2.2⟩
    · rw [if_neg h]; exact ⟨fun _ => ⟨he', h⟩, fun _ => rfl⟩
def wid (b : Bool) : Nat := if b then 8 else 4
theorem wid_t : wid true = 8 := if_pos rfl
theorem wid_f : wid false = 4 := if_neg (by simp)
def bnd (b : Bool) : Nat := if b then 9223372036854775808 else 4294967296
theorem bnd_t : bnd true = 9223372036854775808 := if_pos rfl
theorem bnd_f : bnd false = 4294967296 := if_neg (by simp)
theorem rOne_t (r : Rs) : rOne true r = rU64 r := if_pos rfl
theorem rOne_f (r : Rs) : rOne false r = rU32 r := if_neg (by simp)
theorem rOne_back (b : Bool) (n : Nat) (rest : List UInt8) (h : n < bnd b) : rOne b ⟨num n (wid b) ++ rest, 0⟩ = (n, ⟨rest, 0⟩) := by
  cases b
  · rw [wid_f, rOne_f]; rw [bnd_f] at h; exact rU32_back n rest h
  · rw [wid_t, rOne_t]; rw [bnd_t] at h; exact rU64_back n rest h
theorem rOne_same (b : Bool) {r : Rs} (h0 : r.e = 0) (h : (rOne b r).2.e = 0) : r.s = num (rOne b r).1 (wid b) ++ (rOne b r).2.s := by
  cases b
  · rw [rOne_f] at h; rw [wid_f, rOne_f]; exact (rU32_same h0 h).1
  · rw [rOne_t] at h; rw [wid_t, rOne_t]; exact (rU64_same h0 h).1
/-- numbers, one behind the other -/
def manyB : List Bool → List Nat → List UInt8
  | b :: bs, n :: ns => num n (wid b) ++ manyB bs ns
  | _, _ => []
def manyFit : List Bool → List Nat → Prop
  | b :: bs, n :: ns => n < bnd b ∧ manyFit bs ns
  | [], [] => True
  | _, _ => False
theorem manyB_cons (b : Bool) (bs : List Bool) (n : Nat) (ns : List Nat) : manyB (b :: bs) (n :: ns) = num n (wid b) ++ manyB bs ns := rfl
theorem rMany_cons (b : Bool) (bs : List Bool) (r : Rs) : rMany (b :: bs) r = ((rOne b r).1 :: (rMany bs (rOne b r).2).1, (rMany bs (rOne b r).2).2) := rfl
theorem rMany_back (ws : List Bool) (ns : List Nat) (rest : List UInt8) (h : manyFit ws ns) : rMany ws ⟨manyB ws ns ++ rest, 0⟩ = (ns, ⟨rest, 0⟩) := by
  induction ws generalizing ns with
  | nil => cases ns with
    | nil => rfl
    | cons n ns => exact absurd h (by simp [manyFit])
  | cons b bs ih => cases ns with
    | nil => exact absurd h (by simp [manyFit])
    | cons n ns =>
      obtain ⟨h1, h2⟩ := h
      rw [rMany_cons, manyB_cons, List.append_assoc, rOne_back b n _ h1]
      simp only
      rw [ih ns h2]
theorem rMany_same (ws : List Bool) {r : Rs} (h0 : r.e = 0) (h : (rMany ws r).2.e = 0) : r.s = manyB ws (rMany ws r).1 ++ (rMany ws r).2.s := by
  induction ws generalizing r with
  | nil => rfl
  | cons b bs ih =>
    rw [rMany_cons] at h ⊢
    have he : (rOne b r).2.e = 0 := by
      apply Classical.byContradiction
      intro hc
      simp only [rMany_stick bs hc] at h
      exact hc h
    have e1 := ih he h
    have e2 := rOne_same b h0 he
    rw [manyB_cons, List.append_assoc, ← e1]
    exact e2
end Go.Proofs.YthfhdighniiodaaDoor

/-
  Layer 7 in plain words: a call's bytes give the call back, and no other bytes do. Conditions: machine numbers.
-/
namespace Go.Proofs.YthfhdighniiodaaDoor
open Go.RowKit

theorem cTk_rs (c : Nat) (hc : cLetter c) (z y : Call) (r : Rs) : (cTk c z r).2 = (cTk c y r).2 := by
  rcases hc with rfl | rfl | rfl | rfl | rfl | rfl | rfl | rfl | rfl | rfl | rfl | rfl | rfl <;> rfl
theorem cTkOk_e (c : Nat) (hc2 : c ≠ 115) (r : Rs) : cTkOk c r = ((cTk c callZ r).2.e == 0) := by
  unfold cTkOk; rw [if_neg hc2]
theorem cTk_back_any (x z : Call) (c : Nat) (hc : cLetter c) (rest : List UInt8) (hm : cMay x c = true) (hgo : x.offset ≤ 9223372036854775807) (hgk : x.cookie ≤ 9223372036854775807) (hgv : x.verf ≤ 9223372036854775807) (hgg : x.guard.n ≤ 9223372036854775807) :
    cTk c z ⟨cBytes x c ++ rest, 0⟩ = (cCopy z x c, ⟨rest, 0⟩) ∧ cTkOk c ⟨cBytes x c ++ rest, 0⟩ = true := by
  by_cases h : c = 115
  · subst h
    exact cTk_back_s x z rest hm
  · have e := cTk_back x z c hc h rest hm hgo hgk hgv hgg
    refine ⟨e, ?_⟩
    rw [cTkOk_e c h, cTk_rs c hc callZ z, e]; rfl
/-- the bytes of the letters from k on -/
def cTail (x : Call) (l : List UInt8) (k : Nat) : List UInt8 := (l.drop k).flatMap fun c => cBytes x c.toNat
theorem cTail_next (x : Call) (l : List UInt8) (k : Nat) (hk : k < l.length) : cTail x l k = cBytes x l[k].toNat ++ cTail x l (k + 1) := by
  unfold cTail; rw [List.drop_eq_getElem_cons hk, List.flatMap_cons]
theorem cTail_end (x : Call) (l : List UInt8) : cTail x l l.length = [] := by unfold cTail; simp
theorem cTail_zero (x : Call) (l : List UInt8) : cTail x l 0 = cLaid x l l.length := by unfold cTail cLaid; simp
theorem cSt_back (x z : Call) (l : List UInt8) (hl : ∀ k (hk : k < l.length), cLetter l[k].toNat) (hm : cMayAll x l = true) (rest : List UInt8) (hgo : x.offset ≤ 9223372036854775807) (hgk : x.cookie ≤ 9223372036854775807) (hgv : x.verf ≤ 9223372036854775807) (hgg : x.guard.n ≤ 9223372036854775807)
    (k : Nat) (hk : k ≤ l.length) : cSt l z ⟨cTail x l 0 ++ rest, 0⟩ k = (cTaken x l z k, ⟨cTail x l k ++ rest, 0⟩) := by
  induction k with
  | zero => rfl
  | succ k ih =>
    have hk' : k < l.length := hk
    have hmk : cMay x l[k].toNat = true := (List.all_eq_true.1 hm) _ (List.getElem_mem hk')
    rw [cSt_succ _ _ _ _ hk', ih (by omega), cTaken_succ _ _ _ _ hk', cTail_next x l k hk', List.append_assoc]
    exact (cTk_back_any x _ _ (hl k hk') _ hmk hgo hgk hgv hgg).1
theorem cStOk_at (l : List UInt8) (z : Call) (r : Rs) (k : Nat) (hk : k < l.length) : cStOk l z r k = cTkOk l[k].toNat (cSt l z r k).2 := by
  simp [cStOk, List.getD, List.getElem?_eq_getElem hk]
theorem cStOk_back (x z : Call) (l : List UInt8) (hl : ∀ k (hk : k < l.length), cLetter l[k].toNat) (hm : cMayAll x l = true) (rest : List UInt8) (hgo : x.offset ≤ 9223372036854775807) (hgk : x.cookie ≤ 9223372036854775807) (hgv : x.verf ≤ 9223372036854775807) (hgg : x.guard.n ≤ 9223372036854775807)
    (k : Nat) (hk : k < l.length) : cStOk l z ⟨cTail x l 0 ++ rest, 0⟩ k = true := by
  have hmk : cMay x l[k].toNat = true := (List.all_eq_true.1 hm) _ (List.getElem_mem hk)
  rw [cStOk_at _ _ _ _ hk, cSt_back x z l hl hm rest hgo hgk hgv hgg k (by omega), cTail_next x l k hk, List.append_assoc]
  exact (cTk_back_any x callZ _ (hl k hk) _ hmk hgo hgk hgv hgg).2
/-- a call that may be, from the bytes of it and what lies behind -/
theorem cGet_back (x : Call) (hc : cCheck x = 0) (rest : List UInt8) (hgo : x.offset ≤ 9223372036854775807) (hgk : x.cookie ≤ 9223372036854775807) (hgv : x.verf ≤ 9223372036854775807) (hgg : x.guard.n ≤ 9223372036854775807) :
    cGet x.proc (cLaid x (cFields x.proc) (cFields x.proc).length ++ rest) = if rest = [] then (x, 0) else (callZ, 14) := by
  unfold cCheck at hc
  have ht : cThere x.proc = true := by
    cases h : cThere x.proc
    · rw [h] at hc; simp at hc
    · rfl
  have hnf : ¬ cThere x.proc = false := by rw [ht]; simp
  rw [if_neg hnf] at hc
  by_cases hmt : cMayAll x (cFields x.proc) = true ∧ cTaken x (cFields x.proc) { callZ with proc := x.proc } (cFields x.proc).length = x
  · obtain ⟨hm, hT⟩ := hmt
    have hl : ∀ k (hk : k < (cFields x.proc).length), cLetter (cFields x.proc)[k].toNat := fun k hk => cFields_letter x.proc hk
    have hb := cSt_back x { callZ with proc := x.proc } _ hl hm rest hgo hgk hgv hgg _ (Nat.le_refl _)
    have hbk := fun k hk => cStOk_back x { callZ with proc := x.proc } _ hl hm rest hgo hgk hgv hgg k hk
    rw [cTail_end, List.nil_append, hT] at hb
    unfold cGet
    rw [if_neg hnf, ← cTail_zero, hb]
    by_cases hr : rest = []
    · rw [if_pos hr, if_pos ⟨hbk, by rw [hr]; rfl⟩]
    · rw [if_neg hr, if_neg]
      rintro ⟨_, h⟩
      simp only [rDone, ne_eq, not_true_eq_false, if_false] at h
      rw [if_pos (List.length_pos_iff.2 hr)] at h
      cases h
  · rw [if_neg hmt] at hc; cases hc

theorem settK_stick {k : Nat} {r : Rs} (h : r.e ≠ 0) : (settK k r).2 = r := by
  induction k with
  | zero => rfl
  | succ k ih => show (rOpt (settK k r).2).2 = r; rw [ih, rOpt_stick h]
theorem cTk_stick (c : Nat) (hc : cLetter c) (z : Call) {r : Rs} (h : r.e ≠ 0) : (cTk c z r).2 = r := by
  have e1 : ∀ n, (rOpaque n r).2 = r := fun n => by rw [rOpaque_stick h]
  have e2 : (rU64 r).2 = r := by rw [rU64_stick h]
  have e3 : (rU32 r).2 = r := by rw [rU32_stick h]
  have e4 : (rOpt r).2 = r := by rw [rOpt_stick h]
  rcases hc with rfl | rfl | rfl | rfl | rfl | rfl | rfl | rfl | rfl | rfl | rfl | rfl | rfl
  · exact e1 64
  · exact e1 64
  · exact e1 255
  · exact e1 255
  · exact e1 255
  · exact e1 256
  · exact e2
  · exact e2
  · exact e2
  · exact e3
  · exact e3
  · exact settK_stick (k := 5) h
  · exact e4
theorem cSt_stick (l : List UInt8) (hl : ∀ k (hk : k < l.length), cLetter l[k].toNat) (z : Call) (r : Rs) {k n : Nat} (hkn : k ≤ n) (hn : n ≤ l.length) (h : (cSt l z r n).2.e = 0) : (cSt l z r k).2.e = 0 := by
  induction n with
  | zero => obtain rfl : k = 0 := by omega
            exact h
  | succ n ih =>
    by_cases hk : k = n + 1
    · subst hk; exact h
    · refine ih (by omega) (by omega) ?_
      apply Classical.byContradiction
      intro hc
      rw [cSt_succ _ _ _ _ (show n < l.length from hn), cTk_stick _ (hl n hn) _ hc] at h
      exact hc h
theorem cGet_d (p : Int) (s : List UInt8) (ht : cThere p = true) : cGet p s = if (dGet p s).2 = true then ((dGet p s).1, 0) else (callZ, 14) := by
  have hl : ∀ k (hk : k < (cFields p).length), cLetter (cFields p)[k].toNat := fun k hk => cFields_letter p hk
  have hnf : ¬ cThere p = false := by rw [ht]; simp
  unfold cGet dGet
  rw [if_neg hnf]
  generalize cFields p = l at *
  generalize ({ callZ with proc := p } : Call) = z
  by_cases h1 : (∀ k (hk : k < l.length), l[k].toNat = 115 → cStOk l z ⟨s, 0⟩ k = true) ∧ (cSt l z ⟨s, 0⟩ l.length).2.e = 0 ∧ ¬ 0 < rLeft (cSt l z ⟨s, 0⟩ l.length).2
  · rw [if_pos h1, if_pos rfl, if_pos]
    obtain ⟨h1, h2, h3⟩ := h1
    refine ⟨fun k hk => ?_, ?_⟩
    · by_cases h : l[k].toNat = 115
      · exact h1 k hk h
      · rw [cStOk_at _ _ _ _ hk, cTkOk_e _ h, cTk_rs _ (hl k hk) callZ (cSt l z ⟨s, 0⟩ k).1, ← cSt_succ _ _ _ _ hk]
        have := cSt_stick l hl z ⟨s, 0⟩ (k := k + 1) hk (Nat.le_refl _) h2
        rw [this]; rfl
    · unfold rLeft at h3; unfold rDone
      rw [if_neg (by simpa using h2)] at *
      rw [if_neg h3]
  · have hn : ¬ ((∀ k, k < l.length → cStOk l z ⟨s, 0⟩ k = true) ∧ rDone (cSt l z ⟨s, 0⟩ l.length).2 = 0) := ?_
    · rw [if_neg h1, if_neg hn, if_neg (by simp)]
    rintro ⟨h2, h3⟩
    refine h1 ⟨fun k hk _ => h2 k hk, ?_⟩
    unfold rDone at h3
    by_cases he : (cSt l z ⟨s, 0⟩ l.length).2.e ≠ 0
    · rw [if_pos he] at h3; exact absurd h3 he
    · rw [if_neg he] at h3
      refine ⟨by simpa using he, ?_⟩
      unfold rLeft
      rw [if_neg he]
      intro h
      rw [if_pos h] at h3; cases h3
end Go.Proofs.YthfhdighniiodaaDoor
