/-
  Layer 9 in plain words: the program and the document read the same; what is laid comes back. No condition.
-/
import Derived.Test.YtfjflkmhhbhceaaGreatDoorK50
namespace Go.Proofs.YtfjflkmhhbhceaaGreatDoor

/-- the document's Get is the program's -/
theorem refG_get (s : List UInt8) : refG s.length (atV s) (s.drop 24) (s.drop 56) = getM9 s := by
  by_cases h0 : 2048 < s.length
  · simp [refG, getM9, h0]
  obtain ⟨v, hv⟩ : ∃ v : Nat → Nat, ∀ i, wd (s.drop (4 * i)) = v i := ⟨_, fun _ => rfl⟩
  have hv0 : wd s = v 0 := hv 0
  have hv1 : wd (s.drop 4) = v 1 := hv 1
  have hd : (s.drop 8).length = s.length - 8 := by simp
  have hg : (fun k => wd ((s.drop 8).drop (4 * k))) = fun k => v (k + 2) := funext fun k => by rw [← hv, List.drop_drop]; congr 2; omega
  have hr1 : (s.drop 8).drop 48 = s.drop 56 := by rw [List.drop_drop]
  have hr2 : (s.drop 8).drop 16 = s.drop 24 := by rw [List.drop_drop]
  have hf : ∀ i, atV s i = if s.length < 4 * i + 4 then -1 else (v i : Int) := fun i => by rw [← hv]; rfl
  generalize hat : atV s = f at hf ⊢
  have f0 := hf 0
  have f1 := hf 1
  have f2 := hf 2
  have f3 := hf 3
  have f4 := hf 4
  have f5 := hf 5
  have f6 := hf 6
  have f7 := hf 7
  have f8 := hf 8
  have f9 := hf 9
  have f10 := hf 10
  have f11 := hf 11
  have f12 := hf 12
  have f13 := hf 13
  clear hf
  simp only [Nat.reduceMul, Nat.reduceAdd] at f0 f1 f2 f3 f4 f5 f6 f7 f8 f9 f10 f11 f12 f13
  unfold getM9
  rw [hv0, hv1, hd, hg, hr1, hr2, if_neg h0]
  have hlen24 : 24 ≤ s.length → (s.drop 24).length = s.length - 24 := fun _ => by simp
  generalize s.drop 56 = r56 at *
  generalize s.drop 24 = r24 at *
  generalize s.length = n at *
  clear hv0 hv1 hd hg hr1 hr2 hv hat
  by_cases h8 : n < 8
  · have : f 1 = -1 := by rw [f1, if_pos h8]
    simp [refG, h0, h8, this]
  rw [if_neg h8]
  rw [if_neg (by omega)] at f0 f1
  by_cases k0 : v 1 = 0
  · rw [if_pos k0]
    have e1 : f 1 = 0 := by omega
    have hR : refG n f r24 r56 = if f 2 ≠ 2 ∨ f 3 < 0 then (msg0, 14) else if f 3 ≠ 100003 then (⟨f 0, false, false, 0, cred0, 1, []⟩, 0) else if f 4 < 0 then (msg0, 14)
        else if f 4 ≠ 3 then (⟨f 0, false, false, 0, cred0, 2, []⟩, 0) else if f 13 < 0 then (msg0, 14) else if 21 < f 5 then (⟨f 0, false, false, 0, cred0, 3, []⟩, 0)
        else if f 6 ≠ 1 ∨ f 7 ≠ 16 ∨ f 12 ≠ 0 ∨ f 13 ≠ 0 ∨ Cred.ok ⟨f 8, f 9, f 10, f 11⟩ = false ∨ n % 4 ≠ 0 then (⟨f 0, false, false, 0, cred0, 4, []⟩, 0)
        else (⟨f 0, false, false, f 5, ⟨f 8, f 9, f 10, f 11⟩, 0, r56⟩, 0) := by
      simp [refG, h0, e1]
    rw [hR, f0]
    clear hR
    unfold calledG
    simp only [Nat.reduceAdd, Nat.zero_add]
    by_cases h12 : n < 12
    · rw [if_pos h12] at f2
      rw [if_pos (by omega), if_pos (by omega)]
      rfl
    rw [if_neg h12] at f2
    rw [if_neg (show ¬ n - 8 < 4 by omega)]
    by_cases k2 : v 2 = 2
    case neg => rw [if_pos (by omega), if_pos k2]; rfl
    rw [if_neg (show ¬ v 2 ≠ 2 by omega)]
    by_cases h16 : n < 16
    · rw [if_pos h16] at f3
      rw [if_pos (by omega), if_pos (by omega)]
      rfl
    rw [if_neg h16] at f3
    rw [if_neg (by omega), if_neg (show ¬ n - 8 < 8 by omega)]
    by_cases k3 : v 3 = 100003
    case neg => rw [if_pos (by omega), if_pos k3]; rfl
    rw [if_neg (by omega), if_neg (show ¬ v 3 ≠ 100003 by omega)]
    by_cases h20 : n < 20
    · rw [if_pos h20] at f4
      rw [if_pos (by omega), if_pos (by omega)]
      rfl
    rw [if_neg h20] at f4
    rw [if_neg (by omega), if_neg (show ¬ n - 8 < 12 by omega)]
    by_cases k4 : v 4 = 3
    case neg => rw [if_pos (by omega), if_pos k4]; rfl
    rw [if_neg (by omega), if_neg (show ¬ v 4 ≠ 3 by omega)]
    by_cases h56 : n < 56
    · rw [if_pos h56] at f13
      rw [if_pos (by omega), if_pos (by omega)]
      rfl
    rw [if_neg h56] at f13
    rw [if_neg (by omega)] at f5 f6 f7 f8 f9 f10 f11 f12
    rw [if_neg (by omega), if_neg (show ¬ n - 8 < 48 by omega)]
    have hth : thereP (v 5 : Int) = !decide (21 < (v 5 : Int)) := by rw [Bool.eq_iff_iff]; simp [thereP]
    rw [hth, f5, f6, f7, f8, f9, f10, f11, f12, f13]
    by_cases k5 : 21 < (v 5 : Int)
    · simp [k5, gotM9]
    have hm : (n - 8) % 4 = n % 4 := by omega
    simp only [k5, hm, decide_false, Bool.not_false, if_false]
    grind [gotM9]
  rw [if_neg k0]
  by_cases k1 : v 1 = 1
  · rw [if_pos k1]
    have e1 : f 1 = 1 := by omega
    have hR : refG n f r24 r56 = if f 2 ≠ 0 ∨ f 3 < 0 ∨ 1 < f 3 ∨ f 4 ≠ 0 ∨ f 5 < 0 then (msg0, 14)
        else if Message.fit ⟨f 0, true, f 3 == 1, 0, cred0, f 5, r24⟩ then (⟨f 0, true, f 3 == 1, 0, cred0, f 5, r24⟩, 0) else (msg0, 14) := by
      simp [refG, h0, e1]
    rw [hR, f0]
    clear hR
    unfold answeredG
    by_cases h24 : n < 24
    · rw [if_pos h24] at f5
      rw [if_pos (by omega), if_pos (by omega)]
      rfl
    rw [if_neg h24] at f5
    rw [if_neg (by omega)] at f2 f3 f4
    rw [if_neg (show ¬ n - 8 < 16 by omega), f2, f3, f4, f5]
    have hl := hlen24 (by omega)
    have hbe : ((v 3 : Int) == 1) = (v 3 == 1) := by rw [Bool.eq_iff_iff]; simp; omega
    have hm : (n - 8) % 4 = r24.length % 4 := by omega
    have hfm : n % 4 = 0 → Message.fit ⟨v 0, true, v 3 == 1, 0, cred0, v 5, r24⟩ = Message.may ⟨v 0, true, v 3 == 1, 0, cred0, v 5, r24⟩ := fun h => by
      have hrl : r24.length % 4 = 0 := by omega
      simp [Message.fit, Message.may, hrl]
      grind
    have hf4 : ¬ n % 4 = 0 → Message.fit ⟨v 0, true, v 3 == 1, 0, cred0, v 5, r24⟩ = false := fun h => by
      have hrl : (r24.length % 4 == 0) = false := by simp; omega
      simp [Message.fit, hrl]
    rw [hbe]
    have e0 : (0 + 2) = 2 := rfl
    have e1 : (1 + 2) = 3 := rfl
    have e2 : (2 + 2) = 4 := rfl
    have e3 : (3 + 2) = 5 := rfl
    simp only [e0, e1, e2, e3]
    grind [gotM9]
  rw [if_neg k1]
  have e0 : ¬ f 1 = 0 := by omega
  have e1 : ¬ f 1 = 1 := by omega
  simp [refG, h0, e0, e1]
end Go.Proofs.YtfjflkmhhbhceaaGreatDoor
