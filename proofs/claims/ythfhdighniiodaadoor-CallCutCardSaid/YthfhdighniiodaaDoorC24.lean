/-
  Layer 7, walks: a call's bytes. Conditions: the call's numbers are machine numbers.
-/
import Derived.Test.YthfhdighniiodaaDoorC23
namespace Go.Proofs.YthfhdighniiodaaDoor
open Go.RowKit
attribute [local go_sem ↓] Go.wp_at_zero Go.wp_at_succ
attribute [local go_sem] rowAt_ptr rowOf_drew rowOf_drewN rowOf_alloc_past rowOf_new
attribute [local go_sem ↓] ldSet ldOpt ldCall

attribute [local go_sem] Call.at0 Call.lat0 Call.at1 Call.lat1 Call.at2 Call.lat2 Call.at3 Call.lat3 Call.at4 Call.lat4 Call.at5 Call.lat5 Call.at6 Call.lat6 Call.at7 Call.lat7 Call.at8 Call.lat8 Call.at9 Call.lat9 Call.at10 Call.lat10 Call.at11 Call.lat11 Call.at12 Call.lat12 Call.at13 Call.lat13 Call.at14 Call.lat14 Call.at15 Call.lat15 Call.at16 Call.lat16 Call.at17 Call.lat17 Call.at18 Call.lat18 Call.at19 Call.lat19 Call.at20 Call.lat20 Call.at21 Call.lat21 Call.at22 Call.lat22 Call.at23 Call.lat23 Call.sub0_24 Call.lsub0_24 Call.sub9_10 Call.lsub9_10 Call.sub9_2 Call.lsub9_2 Call.sub11_2 Call.lsub11_2 Call.sub13_2 Call.lsub13_2 Call.sub15_2 Call.lsub15_2 Call.sub17_2 Call.lsub17_2 Call.sub19_2 Call.lsub19_2 Call.len Sett.at0 Sett.lat0 Sett.at1 Sett.lat1 Sett.at2 Sett.lat2 Sett.at3 Sett.lat3 Sett.at4 Sett.lat4 Sett.at5 Sett.lat5 Sett.at6 Sett.lat6 Sett.at7 Sett.lat7 Sett.at8 Sett.lat8 Sett.at9 Sett.lat9 Sett.sub0_10 Sett.lsub0_10 Sett.sub0_2 Sett.lsub0_2 Sett.sub2_2 Sett.lsub2_2 Sett.sub4_2 Sett.lsub4_2 Sett.sub6_2 Sett.lsub6_2 Sett.sub8_2 Sett.lsub8_2 Sett.len Opt.at0 Opt.lat0 Opt.at1 Opt.lat1 Opt.sub0_2 Opt.lsub0_2 Opt.len

theorem cCheck_fine {x : Call} (h : cCheck x = 0) : cMayAll x (cFields x.proc) = true := by
  unfold cCheck at h
  split at h
  · cases h
  · split at h
    · next h2 => exact h2.1
    · cases h
/-- a call's bytes, or why there are none -/
def cPut (x : Call) : List UInt8 × Int := if cCheck x = 0 then (cLaid x (cFields x.proc) (cFields x.proc).length, 0) else ([], cCheck x)
theorem cFields_short (p : Int) : (cFields p).length ≤ 5 := by
  unfold cFields
  split
  · simp
  · rcases Nat.lt_or_ge p.toNat lettersC.length with h | h
    · have he : lettersC.getD p.toNat [] = lettersC[p.toNat] := by simp [List.getD, List.getElem?_eq_getElem h]
      rw [he]
      have : ∀ s ∈ lettersC, s.length ≤ 5 := by decide
      exact this _ (List.getElem_mem h)
    · simp [List.getD, List.getElem?_eq_none h]
theorem opq_len (l : List UInt8) : (opq l).length ≤ l.length + 8 := by
  have := padn_lt l.length
  simp only [opq, List.length_append, num_len, filled_len]
  omega
theorem optB_len (b : Bool) (n : Int) : (optB b n).length ≤ 12 := by
  cases b <;> simp [optB, truth, num_len]
theorem optBytes_len (o : Opt) : o.bytes.length ≤ 12 := optB_len o.is o.n
theorem cBytes_len (x : Call) (c : Nat) (hm : cMay x c = true) (hl : cLetter c) : (cBytes x c).length ≤ 600 := by
  have hs : x.set.bytes.length ≤ 60 := by
    have h1 := optBytes_len x.set.mode
    have h2 := optBytes_len x.set.uid
    have h3 := optBytes_len x.set.gid
    have h4 := optBytes_len x.set.size
    have h5 := optBytes_len x.set.time
    simp only [Sett.bytes, List.length_append]
    omega
  have ho := optB_len x.guard.is x.guard.n
  have o1 := opq_len x.fh
  have o2 := opq_len x.fh2
  have o3 := opq_len x.name
  have o4 := opq_len x.name2
  have o5 := opq_len x.text
  have o6 := opq_len x.data
  rcases hl with rfl | rfl | rfl | rfl | rfl | rfl | rfl | rfl | rfl | rfl | rfl | rfl | rfl
  all_goals
    simp [cMay] at hm
    simp [cBytes, num_len]
    try omega
theorem cLaid_len (x : Call) (l : List UInt8) (hm : cMayAll x l = true) (hl : ∀ k (hk : k < l.length), cLetter l[k].toNat) (k : Nat) (hk : k ≤ l.length) : (cLaid x l k).length ≤ 600 * k := by
  induction k with
  | zero => simp [cLaid]
  | succ k ih =>
    have h1 := ih (by omega)
    have hlt : k < l.length := by omega
    rw [cMayAll, List.all_eq_true] at hm
    have h2 := cBytes_len x l[k].toNat (hm _ (List.getElem_mem hlt)) (hl k hlt)
    rw [cLaid_succ x l k hlt, List.length_append]
    omega
end Go.Proofs.YthfhdighniiodaaDoor
