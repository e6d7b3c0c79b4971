/-
  Layer 9 in plain words: the program and the document read the same; what is laid comes back. No condition.
-/
import Derived.Test.YtlblenojhfeboaaDoorRpcGetPureC
namespace Go.Proofs.YtlblenojhfeboaaDoor

theorem filled_whole {l : List UInt8} (h : l.length % 4 = 0) : filled l = l := by
  have hp : padn l.length = 0 := by unfold padn; omega
  simp [filled, hp]
theorem raw_bytes {m : Message} (h : m.body.length % 4 = 0) : m.raw = m.bytes := by rw [Message.raw, Message.bytes, filled_whole h]
theorem raw_len (m : Message) : m.raw.length = 4 * m.nums.length + m.body.length := by rw [Message.raw, List.length_append, nums4_len]
theorem nums_len (m : Message) : m.nums.length = if m.answer then 6 else 14 := by unfold Message.nums; split <;> rfl
theorem fit_bad (m : Message) : m.fit = !m.bad := by
  by_cases hb : m.body.length % 4 = 0
  · have h1 : m.bytes.length = (if m.answer then 24 else 56) + m.body.length := by
      rw [← raw_bytes hb, raw_len, nums_len]; split <;> rfl
    unfold Message.bad
    rw [h1]
    obtain ⟨xid, answer, again, proc, cred, accept, body⟩ := m
    simp only at hb
    rw [Bool.eq_iff_iff]
    cases answer
    · simp [Message.fit, Message.may, thereP, hb]
      grind
    · simp [Message.fit, Message.may, hb]
      grind
  · have hb' : (m.body.length % 4 == 0) = false := by simpa using hb
    simp [Message.fit, Message.bad, Message.may, hb']
theorem fit_may {m : Message} (h : m.fit = true) : m.may = true := by
  rw [fit_bad] at h
  unfold Message.bad at h
  grind
/-- the document's Get is the program's -/
theorem refG_get (s : List UInt8) : refG s.length (atV s) (s.drop 24) (s.drop 56) = getM s := by
  by_cases h0 : 2048 < s.length
  · simp [refG, getM, h0]
  obtain ⟨v, hv⟩ : ∃ v : Nat → Nat, ∀ i, wd (s.drop (4 * i)) = v i := ⟨_, fun _ => rfl⟩
  have hv0 : wd s = v 0 := hv 0
  have hv1 : wd (s.drop 4) = v 1 := hv 1
  have hd : (s.drop 8).length = s.length - 8 := by simp
  have hg : (fun k => wd ((s.drop 8).drop (4 * k))) = fun k => v (k + 2) := funext fun k => by rw [← hv, List.drop_drop]; congr 2; omega
  have hr1 : (s.drop 8).drop 48 = s.drop 56 := by rw [List.drop_drop]
  have hr2 : (s.drop 8).drop 16 = s.drop 24 := by rw [List.drop_drop]
  have hf : ∀ i, atV s i = if s.length < 4 * i + 4 then -1 else (v i : Int) := fun i => by rw [← hv]; rfl
  generalize hat : atV s = f at hf ⊢
  have f0 := hf 0
  have f1 := hf 1
  have f2 := hf 2
  have f3 := hf 3
  have f4 := hf 4
  have f5 := hf 5
  have f6 := hf 6
  have f7 := hf 7
  have f8 := hf 8
  have f9 := hf 9
  have f10 := hf 10
  have f11 := hf 11
  have f12 := hf 12
  have f13 := hf 13
  clear hf
  simp only [Nat.reduceMul, Nat.reduceAdd] at f0 f1 f2 f3 f4 f5 f6 f7 f8 f9 f10 f11 f12 f13
  unfold getM
  rw [hv0, hv1, hd, hg, hr1, hr2, if_neg h0]
  have hlen24 : 24 ≤ s.length → (s.drop 24).length = s.length - 24 := fun _ => by simp
  generalize s.drop 56 = r56 at *
  generalize s.drop 24 = r24 at *
  generalize s.length = n at *
  clear hv0 hv1 hd hg hr1 hr2 hv hat
  by_cases h8 : n < 8
  · have : f 1 = -1 := by rw [f1, if_pos h8]
    simp [refG, h0, h8, this]
  rw [if_neg h8]
  rw [if_neg (by omega)] at f0 f1
  by_cases k0 : v 1 = 0
  · rw [if_pos k0]
    have e1 : f 1 = 0 := by omega
    have hR : refG n f r24 r56 = if f 2 ≠ 2 ∨ f 3 < 0 then (msg0, 14) else if f 3 ≠ 100003 then (⟨f 0, false, false, 0, cred0, 1, []⟩, 0) else if f 4 < 0 then (msg0, 14)
        else if f 4 ≠ 3 then (⟨f 0, false, false, 0, cred0, 2, []⟩, 0) else if f 13 < 0 then (msg0, 14) else if 21 < f 5 then (⟨f 0, false, false, 0, cred0, 3, []⟩, 0)
        else if f 6 ≠ 1 ∨ f 7 ≠ 16 ∨ f 12 ≠ 0 ∨ f 13 ≠ 0 ∨ Cred.ok ⟨f 8, f 9, f 10, f 11⟩ = false ∨ n % 4 ≠ 0 then (⟨f 0, false, false, 0, cred0, 4, []⟩, 0)
        else (⟨f 0, false, false, f 5, ⟨f 8, f 9, f 10, f 11⟩, 0, r56⟩, 0) := by
      simp [refG, h0, e1]
    rw [hR, f0]
    clear hR
    unfold calledG
    simp only [Nat.reduceAdd, Nat.zero_add]
    by_cases h12 : n < 12
    · rw [if_pos h12] at f2
      rw [if_pos (by omega), if_pos (by omega)]
      rfl
    rw [if_neg h12] at f2
    rw [if_neg (show ¬ n - 8 < 4 by omega)]
    by_cases k2 : v 2 = 2
    case neg => rw [if_pos (by omega), if_pos k2]; rfl
    rw [if_neg (show ¬ v 2 ≠ 2 by omega)]
    by_cases h16 : n < 16
    · rw [if_pos h16] at f3
      rw [if_pos (by omega), if_pos (by omega)]
      rfl
    rw [if_neg h16] at f3
    rw [if_neg (by omega), if_neg (show ¬ n - 8 < 8 by omega)]
    by_cases k3 : v 3 = 100003
    case neg => rw [if_pos (by omega), if_pos k3]; rfl
    rw [if_neg (by omega), if_neg (show ¬ v 3 ≠ 100003 by omega)]
    by_cases h20 : n < 20
    · rw [if_pos h20] at f4
      rw [if_pos (by omega), if_pos (by omega)]
      rfl
    rw [if_neg h20] at f4
    rw [if_neg (by omega), if_neg (show ¬ n - 8 < 12 by omega)]
    by_cases k4 : v 4 = 3
    case neg => rw [if_pos (by omega), if_pos k4]; rfl
    rw [if_neg (by omega), if_neg (show ¬ v 4 ≠ 3 by omega)]
    by_cases h56 : n < 56
    · rw [if_pos h56] at f13
      rw [if_pos (by omega), if_pos (by omega)]
      rfl
    rw [if_neg h56] at f13
    rw [if_neg (by omega)] at f5 f6 f7 f8 f9 f10 f11 f12
    rw [if_neg (by omega), if_neg (show ¬ n - 8 < 48 by omega)]
    have hth : thereP (v 5 : Int) = !decide (21 < (v 5 : Int)) := by rw [Bool.eq_iff_iff]; simp [thereP]
    rw [hth, f5, f6, f7, f8, f9, f10, f11, f12, f13]
    by_cases k5 : 21 < (v 5 : Int)
    · simp [k5, gotM]
    have hm : (n - 8) % 4 = n % 4 := by omega
    simp only [k5, hm, decide_false, Bool.not_false, if_false]
    grind [gotM]
  rw [if_neg k0]
  by_cases k1 : v 1 = 1
  · rw [if_pos k1]
    have e1 : f 1 = 1 := by omega
    have hR : refG n f r24 r56 = if f 2 ≠ 0 ∨ f 3 < 0 ∨ 1 < f 3 ∨ f 4 ≠ 0 ∨ f 5 < 0 then (msg0, 14)
        else if Message.fit ⟨f 0, true, f 3 == 1, 0, cred0, f 5, r24⟩ then (⟨f 0, true, f 3 == 1, 0, cred0, f 5, r24⟩, 0) else (msg0, 14) := by
      simp [refG, h0, e1]
    rw [hR, f0]
    clear hR
    unfold answeredG
    by_cases h24 : n < 24
    · rw [if_pos h24] at f5
      rw [if_pos (by omega), if_pos (by omega)]
      rfl
    rw [if_neg h24] at f5
    rw [if_neg (by omega)] at f2 f3 f4
    rw [if_neg (show ¬ n - 8 < 16 by omega), f2, f3, f4, f5]
    have hl := hlen24 (by omega)
    have hbe : ((v 3 : Int) == 1) = (v 3 == 1) := by rw [Bool.eq_iff_iff]; simp; omega
    have hm : (n - 8) % 4 = r24.length % 4 := by omega
    have hfm : n % 4 = 0 → Message.fit ⟨v 0, true, v 3 == 1, 0, cred0, v 5, r24⟩ = Message.may ⟨v 0, true, v 3 == 1, 0, cred0, v 5, r24⟩ := fun h => by
      have hrl : r24.length % 4 = 0 := by omega
      simp [Message.fit, Message.may, hrl]
      grind
    have hf4 : ¬ n % 4 = 0 → Message.fit ⟨v 0, true, v 3 == 1, 0, cred0, v 5, r24⟩ = false := fun h => by
      have hrl : (r24.length % 4 == 0) = false := by simp; omega
      simp [Message.fit, hrl]
    rw [hbe]
    have e0 : (0 + 2) = 2 := rfl
    have e1 : (1 + 2) = 3 := rfl
    have e2 : (2 + 2) = 4 := rfl
    have e3 : (3 + 2) = 5 := rfl
    simp only [e0, e1, e2, e3]
    grind [gotM]
  rw [if_neg k1]
  have e0 : ¬ f 1 = 0 := by omega
  have e1 : ¬ f 1 = 1 := by omega
  simp [refG, h0, e0, e1]
theorem wd_chain {s : List UInt8} (h : 4 ≤ s.length) : num (wd s) 4 ++ s.drop 4 = s := by
  have h4 : (s.take 4).length = 4 := by simp; omega
  have := num_beVal (s.take 4)
  rw [h4] at this
  unfold wd
  rw [this, List.take_append_drop]
theorem wd_at {s : List UInt8} (k : Nat) (h : 4 * k + 4 ≤ s.length) : num (wd (s.drop (4 * k))) 4 ++ s.drop (4 * (k + 1)) = s.drop (4 * k) := by
  have := wd_chain (s := s.drop (4 * k)) (by simp; omega)
  rw [List.drop_drop] at this
  exact this
theorem wd_num (n : Nat) (r : List UInt8) (h : n < 4294967296) : wd (num n 4 ++ r) = n := by
  unfold wd
  rw [List.take_append_of_le_length (by rw [num_len]; omega), List.take_of_length_le (by rw [num_len]; omega), beVal_num n 4 h]
theorem nums4_cons (a : Int) (l : List Int) : nums4 (a :: l) = num a.toNat 4 ++ nums4 l := by simp [nums4]
theorem wd_nums : ∀ (l : List Int) (r : List UInt8) (i : Nat) (hi : i < l.length), in32 l = true → wd ((nums4 l ++ r).drop (4 * i)) = (l[i]).toNat
  | [], _, _, hi, _ => by simp at hi
  | a :: l, r, 0, _, h => by
    have h0 := in32_get h (k := 0) (by simp)
    simp only [List.getElem_cons_zero] at h0
    rw [nums4_cons, List.append_assoc, Nat.mul_zero, List.drop_zero, List.getElem_cons_zero]
    exact wd_num _ _ (by omega)
  | a :: l, r, i + 1, hi, h => by
    have hl : in32 l = true := by simp [in32] at h ⊢; exact h.2
    have hd : (nums4 (a :: l) ++ r).drop (4 * (i + 1)) = (nums4 l ++ r).drop (4 * i) := by
      rw [nums4_cons, List.append_assoc, show 4 * (i + 1) = 4 + 4 * i by omega, ← List.drop_drop, List.drop_left' (by rw [num_len])]
    rw [hd, List.getElem_cons_succ]
    exact wd_nums l r i (by simpa using hi) hl
theorem nums4_drop (l : List Int) (r : List UInt8) {k : Nat} (hk : k = 4 * l.length) : (nums4 l ++ r).drop k = r := List.drop_left' (by rw [nums4_len, hk])
theorem calledG_ok {x : Int} {n : Nat} {f : Nat → Nat} {r : List UInt8} {m : Message} (h : calledG x n f r = some m) (ha : m.answer = true ∨ m.accept = 0) :
    ¬ n < 48 ∧ f 0 = 2 ∧ f 1 = 100003 ∧ f 2 = 3 ∧ thereP (f 3) = true ∧ f 4 = 1 ∧ f 5 = 16 ∧ f 10 = 0 ∧ f 11 = 0 ∧ Cred.ok ⟨f 6, f 7, f 8, f 9⟩ = true ∧ n % 4 = 0 ∧ m = ⟨x, false, false, f 3, ⟨f 6, f 7, f 8, f 9⟩, 0, r⟩ := by
  unfold calledG at h
  split at h
  · cases h
  rename_i a1
  split at h
  · cases h
  rename_i a2
  split at h
  · cases h
  rename_i a3
  split at h
  · cases h; simp at ha
  rename_i a4
  split at h
  · cases h
  rename_i a5
  split at h
  · cases h; simp at ha
  rename_i a6
  split at h
  · cases h
  rename_i a7
  split at h
  · cases h; simp at ha
  rename_i a8
  split at h
  · cases h; simp at ha
  rename_i a9
  cases h
  simp only [not_or, Decidable.not_not, ne_eq, Bool.not_eq_false] at a2 a4 a6 a8 a9
  exact ⟨a7, a2, a4, a6, a8, a9.1, a9.2.1, a9.2.2.1, a9.2.2.2.1, a9.2.2.2.2.1, a9.2.2.2.2.2, rfl⟩
theorem answeredG_ok {x : Int} {n : Nat} {f : Nat → Nat} {r : List UInt8} {m : Message} (h : answeredG x n f r = some m) :
    ¬ n < 16 ∧ f 0 = 0 ∧ f 1 ≤ 1 ∧ f 2 = 0 ∧ n % 4 = 0 ∧ m = ⟨x, true, f 1 == 1, 0, cred0, f 3, r⟩ ∧ m.may = true := by
  unfold answeredG at h
  grind
theorem gotM_ok {r : Option Message} {m : Message} (h : gotM r = (m, 0)) : r = some m := by
  cases r <;> simp_all [gotM]
theorem get_raw {s : List UInt8} {m : Message} (h : getM s = (m, 0)) (ha : m.answer = true ∨ m.accept = 0) : m.raw = s ∧ m.may = true ∧ s.length ≤ 2048 := by
  unfold getM at h
  split at h
  · simp at h
  split at h
  · simp at h
  rename_i hlen h8
  have e0 := wd_at (s := s) 0 (by omega)
  have e1 := wd_at (s := s) 1 (by omega)
  split at h
  · rename_i k0
    obtain ⟨hn, c0, c1, c2, hth, c4, c5, c10, c11, hok, hm4, rfl⟩ := calledG_ok (gotM_ok h) ha
    rw [List.length_drop] at hn hm4
    have e2 := wd_at (s := s) 2 (by omega)
    have e3 := wd_at (s := s) 3 (by omega)
    have e4 := wd_at (s := s) 4 (by omega)
    have e5 := wd_at (s := s) 5 (by omega)
    have e6 := wd_at (s := s) 6 (by omega)
    have e7 := wd_at (s := s) 7 (by omega)
    have e8 := wd_at (s := s) 8 (by omega)
    have e9 := wd_at (s := s) 9 (by omega)
    have e10 := wd_at (s := s) 10 (by omega)
    have e11 := wd_at (s := s) 11 (by omega)
    have e12 := wd_at (s := s) 12 (by omega)
    have e13 := wd_at (s := s) 13 (by omega)
    have hx := wd_lt s
    simp only [List.drop_drop, Nat.reduceMul, Nat.reduceAdd, List.drop_zero] at *
    refine ⟨?_, ?_, by omega⟩
    · rw [c0] at e2
      rw [c1] at e3
      rw [c2] at e4
      rw [c4] at e6
      rw [c5] at e7
      rw [c10] at e12
      rw [c11] at e13
      rw [k0] at e1
      conv => rhs; rw [← e0, ← e1, ← e2, ← e3, ← e4, ← e5, ← e6, ← e7, ← e8, ← e9, ← e10, ← e11, ← e12, ← e13]
      simp [Message.raw, Message.nums, nums4]
    · have hbl : (s.drop 56).length % 4 = 0 := by simp; omega
      simp [Message.may, num32, hth, hok]
      omega
  split at h
  · rename_i k0 k1
    obtain ⟨hn, c0, c1, c2, hm4, rfl, hmay⟩ := answeredG_ok (gotM_ok h)
    rw [List.length_drop] at hn hm4
    have e2 := wd_at (s := s) 2 (by omega)
    have e3 := wd_at (s := s) 3 (by omega)
    have e4 := wd_at (s := s) 4 (by omega)
    have e5 := wd_at (s := s) 5 (by omega)
    simp only [List.drop_drop, Nat.reduceMul, Nat.reduceAdd, List.drop_zero] at *
    refine ⟨?_, hmay, by omega⟩
    rw [c0] at e2
    rw [c2] at e4
    rw [k1] at e1
    conv => rhs; rw [← e0, ← e1, ← e2, ← e3, ← e4, ← e5]
    rcases Nat.le_one_iff_eq_zero_or_eq_one.1 c1 with c | c
    all_goals
      rw [c]
      simp [Message.raw, Message.nums, nums4]
  · simp at h
theorem get_back {m : Message} (h : m.fit = true) : getM m.raw = (m, 0) := by
  have hm := fit_may h
  have hmay := hm
  have h32 := may_in32 hm
  have hb := may_body hm
  have hn := raw_len m
  have hw := fun i hi => wd_nums m.nums m.body i hi h32
  have hdr := fun k hk => nums4_drop m.nums m.body (k := k) hk
  rw [nums_len] at hn
  change m.raw.length = _ at hn
  change ∀ i hi, wd (m.raw.drop (4 * i)) = _ at hw
  change ∀ k hk, m.raw.drop k = m.body at hdr
  generalize m.raw = s at *
  obtain ⟨xid, answer, again, proc, cred, accept, body⟩ := m
  have hd8 : (s.drop 8).length = s.length - 8 := by simp
  cases answer
  · simp only [Message.nums, Bool.false_eq_true, if_false, List.length_cons, List.length_nil] at hw hdr hn hb
    simp [Message.may, num32, Cred.ok, thereP] at hm
    simp [Message.fit] at h
    have w0 : wd s = xid.toNat := hw 0 (by omega)
    have w1 : wd (s.drop 4) = 0 := hw 1 (by omega)
    have w : ∀ i (hi : i + 2 < 14), wd ((s.drop 8).drop (4 * i)) = (([xid, 0, 2, 100003, 3, proc, 1, 16, cred.client, cred.seq, cred.uid, cred.gid, 0, 0] : List Int)[i + 2]).toNat := fun i hi => by
      rw [List.drop_drop, show 8 + 4 * i = 4 * (i + 2) by omega]; exact hw (i + 2) hi
    have x0 := w 0 (by omega)
    have x1 := w 1 (by omega)
    have x2 := w 2 (by omega)
    have x3 := w 3 (by omega)
    have x4 := w 4 (by omega)
    have x5 := w 5 (by omega)
    have x6 := w 6 (by omega)
    have x7 := w 7 (by omega)
    have x8 := w 8 (by omega)
    have x9 := w 9 (by omega)
    have x10 := w 10 (by omega)
    have x11 := w 11 (by omega)
    have d48 : (s.drop 8).drop 48 = body := by rw [List.drop_drop]; exact hdr 56 (by omega)
    simp at x0 x1 x2 x3 x4 x5 x6 x7 x8 x9 x10 x11
    have hn' : s.length = 56 + body.length := by simpa using hn
    obtain ⟨cl, sq, ui, gi⟩ := cred
    simp only at hm h x6 x7 x8 x9
    have t0 : ((xid.toNat : Nat) : Int) = xid := by omega
    have t3 : ((proc.toNat : Nat) : Int) = proc := by omega
    have t6 : ((cl.toNat : Nat) : Int) = cl := by omega
    have t7 : ((sq.toNat : Nat) : Int) = sq := by omega
    have t8 : ((ui.toNat : Nat) : Int) = ui := by omega
    have t9 : ((gi.toNat : Nat) : Int) = gi := by omega
    have hth : thereP proc = true := by simp [thereP]; omega
    have hok : Cred.ok ⟨cl, sq, ui, gi⟩ = true := by simp [Cred.ok, num32]; omega
    have a1 : ¬ s.length - 8 < 4 := by omega
    have a2 : ¬ s.length - 8 < 8 := by omega
    have a3 : ¬ s.length - 8 < 12 := by omega
    have a4 : ¬ s.length - 8 < 48 := by omega
    have a5 : (s.length - 8) % 4 = 0 := by omega
    rw [getM, if_neg (by omega), if_neg (by omega), w1, if_pos rfl, w0, hd8, d48]
    simp only [List.drop_drop] at *
    simp [calledG, x0, x1, x2, x3, x4, x5, x6, x7, x8, x9, x10, x11, t0, t3, t6, t7, t8, t9, hth, hok, a1, a2, a3, a4, a5, gotM]
    grind
  · simp only [Message.nums, if_true, List.length_cons, List.length_nil] at hw hdr hn hb
    simp [Message.may, num32, cred0] at hm
    simp [Message.fit] at h
    have w0 : wd s = xid.toNat := hw 0 (by omega)
    have w1 : wd (s.drop 4) = 1 := hw 1 (by omega)
    have w : ∀ i (hi : i + 2 < 6), wd ((s.drop 8).drop (4 * i)) = (([xid, 1, 0, if again = true then 1 else 0, 0, accept] : List Int)[i + 2]).toNat := fun i hi => by
      rw [List.drop_drop, show 8 + 4 * i = 4 * (i + 2) by omega]; exact hw (i + 2) hi
    have x0 := w 0 (by omega)
    have x1 := w 1 (by omega)
    have x2 := w 2 (by omega)
    have x3 := w 3 (by omega)
    have d48 : (s.drop 8).drop 16 = body := by rw [List.drop_drop]; exact hdr 24 (by omega)
    simp at x0 x1 x2 x3
    have hn' : s.length = 24 + body.length := by simpa using hn
    have t0 : ((xid.toNat : Nat) : Int) = xid := by omega
    have t3 : ((accept.toNat : Nat) : Int) = accept := by omega
    have a1 : ¬ s.length - 8 < 16 := by omega
    have a5 : (s.length - 8) % 4 = 0 := by omega
    rw [getM, if_neg (by omega), if_neg (by omega), w1, if_neg (by omega), if_pos rfl, w0, hd8, d48]
    simp only [List.drop_drop] at *
    obtain ⟨_, _, rfl, hc, _⟩ := hm
    have hc : cred = cred0 := of_decide_eq_true hc
    subst hc
    cases again <;> simp [answeredG, x0, x1, x2, x3, t0, t3, a1, a5, gotM, hmay]
end Go.Proofs.YtlblenojhfeboaaDoor
