/-
  Layer 7, walks: what is to be set, and the guard, are laid; every letter's field. Conditions: a writer and a call at blocks of their own; the field may be.
-/
import Derived.Test.YthfhdighniiodaaDoorC18
namespace Go.Proofs.YthfhdighniiodaaDoor
open Go.RowKit
attribute [local go_sem ↓] Go.wp_at_zero Go.wp_at_succ
attribute [local go_sem] rowAt_ptr rowOf_drew rowOf_drewN rowOf_alloc_past rowOf_new
attribute [local go_sem ↓] ldSet ldOpt ldCall

attribute [local go_sem] Call.at0 Call.lat0 Call.at1 Call.lat1 Call.at2 Call.lat2 Call.at3 Call.lat3 Call.at4 Call.lat4 Call.at5 Call.lat5 Call.at6 Call.lat6 Call.at7 Call.lat7 Call.at8 Call.lat8 Call.at9 Call.lat9 Call.at10 Call.lat10 Call.at11 Call.lat11 Call.at12 Call.lat12 Call.at13 Call.lat13 Call.at14 Call.lat14 Call.at15 Call.lat15 Call.at16 Call.lat16 Call.at17 Call.lat17 Call.at18 Call.lat18 Call.at19 Call.lat19 Call.at20 Call.lat20 Call.at21 Call.lat21 Call.at22 Call.lat22 Call.at23 Call.lat23 Call.sub0_24 Call.lsub0_24 Call.sub9_10 Call.lsub9_10 Call.sub9_2 Call.lsub9_2 Call.sub11_2 Call.lsub11_2 Call.sub13_2 Call.lsub13_2 Call.sub15_2 Call.lsub15_2 Call.sub17_2 Call.lsub17_2 Call.sub19_2 Call.lsub19_2 Call.len Sett.at0 Sett.lat0 Sett.at1 Sett.lat1 Sett.at2 Sett.lat2 Sett.at3 Sett.lat3 Sett.at4 Sett.lat4 Sett.at5 Sett.lat5 Sett.at6 Sett.lat6 Sett.at7 Sett.lat7 Sett.at8 Sett.lat8 Sett.at9 Sett.lat9 Sett.sub0_10 Sett.lsub0_10 Sett.sub0_2 Sett.lsub0_2 Sett.sub2_2 Sett.lsub2_2 Sett.sub4_2 Sett.lsub4_2 Sett.sub6_2 Sett.lsub6_2 Sett.sub8_2 Sett.lsub8_2 Sett.len Opt.at0 Opt.lat0 Opt.at1 Opt.lat1 Opt.sub0_2 Opt.lsub0_2 Opt.len

theorem claid_s (g b : Nat) (sv : Value) (l : List UInt8) (x : Call) (w : World) (hW : Wr w g sv l) (hB : Blk w b 57 x.vals) (hm : cMay x 115 = true) (hg : x.set.good) (hl : l.length ≤ 900000000000) :
    Calls Tryd.prog 72 #[ptr g, .pointer (some ⟨b, 0, none⟩), .int .i32 115] w (Wrote g sv (l ++ cBytes x 115) (.tuple #[]) w) := by
  have hr : rowOf w b 9 10 = some x.set.vals.toArray := hB.row 9 10 (by simp [Call.len])
  have hm2 : x.set.ok = true := by simpa [cMay] using hm
  have HS := Lib.hid (show cBytes x 115 = x.set.bytes by simp [cBytes])
  go_enter Tryd.func72, Tryd.ntmps72
  go_wp2_with fail
  refine (putSet_any g sv l x.set _ hW hm2 hg hl).mono ?_
  rintro e w1 ⟨rfl, hM⟩
  rw [← HS.out] at hM
  have HM := Lib.hid hM
  clear hM
  go_wp2
  go_end0
  exact ⟨rfl, HM.out⟩
theorem claid_g (g b : Nat) (sv : Value) (l : List UInt8) (x : Call) (w : World) (hW : Wr w g sv l) (hB : Blk w b 57 x.vals) (hm : cMay x 103 = true) (hg : x.guard.n ≤ 9223372036854775807) (hl : l.length ≤ 900000000000) :
    Calls Tryd.prog 72 #[ptr g, .pointer (some ⟨b, 0, none⟩), .int .i32 103] w (Wrote g sv (l ++ cBytes x 103) (.tuple #[]) w) := by
  have hr : rowOf w b 19 2 = some x.guard.vals.toArray := hB.row 19 2 (by simp [Call.len])
  have hm2 : 0 ≤ x.guard.n := by simp [cMay] at hm; exact hm.1
  have HS := Lib.hid (show cBytes x 103 = optB x.guard.is x.guard.n by simp [cBytes])
  go_enter Tryd.func72, Tryd.ntmps72
  go_wp2_with fail
  refine (wOpt_any g sv l x.guard.is x.guard.n _ hW (fun _ => hm2) hg (by omega)).mono ?_
  rintro e w1 ⟨rfl, hM⟩
  rw [← HS.out] at hM
  have HM := Lib.hid hM
  clear hM
  go_wp2
  go_end0
  exact ⟨rfl, HM.out⟩
theorem claid_any (g b : Nat) (sv : Value) (l : List UInt8) (x : Call) (c : Nat) (w : World) (hc : cLetter c) (hW : Wr w g sv l) (hB : Blk w b 57 x.vals) (hm : cMay x c = true) (hgo : x.offset ≤ 9223372036854775807) (hgk : x.cookie ≤ 9223372036854775807) (hgv : x.verf ≤ 9223372036854775807) (hgs : x.set.good) (hgg : x.guard.n ≤ 9223372036854775807) (hl : l.length ≤ 900000000000) :
    Calls Tryd.prog 72 #[ptr g, .pointer (some ⟨b, 0, none⟩), .int .i32 c] w (Wrote g sv (l ++ cBytes x c) (.tuple #[]) w) := by
  rcases hc with rfl | rfl | rfl | rfl | rfl | rfl | rfl | rfl | rfl | rfl | rfl | rfl | rfl
  · exact claid_f g b sv l x w hW hB hm hl
  · exact claid_f2 g b sv l x w hW hB hm hl
  · exact claid_n g b sv l x w hW hB hm hl
  · exact claid_n2 g b sv l x w hW hB hm hl
  · exact claid_t g b sv l x w hW hB hm hl
  · exact claid_d g b sv l x w hW hB hm hl
  · exact claid_o g b sv l x w hW hB hm hgo hl
  · exact claid_k g b sv l x w hW hB hm hgk hl
  · exact claid_v g b sv l x w hW hB hm hgv hl
  · exact claid_c g b sv l x w hW hB hm hl
  · exact claid_h g b sv l x w hW hB hm hl
  · exact claid_s g b sv l x w hW hB hm hgs hl
  · exact claid_g g b sv l x w hW hB hm hgg hl
end Go.Proofs.YthfhdighniiodaaDoor

/-
  Layer 7, walks: the closure that lays a letter's field. Conditions as told.
-/
namespace Go.Proofs.YthfhdighniiodaaDoor
open Go.RowKit
attribute [local go_sem ↓] Go.wp_at_zero Go.wp_at_succ
attribute [local go_sem] rowAt_ptr rowOf_drew rowOf_drewN rowOf_alloc_past rowOf_new
attribute [local go_sem ↓] ldSet ldOpt ldCall

attribute [local go_sem] Call.at0 Call.lat0 Call.at1 Call.lat1 Call.at2 Call.lat2 Call.at3 Call.lat3 Call.at4 Call.lat4 Call.at5 Call.lat5 Call.at6 Call.lat6 Call.at7 Call.lat7 Call.at8 Call.lat8 Call.at9 Call.lat9 Call.at10 Call.lat10 Call.at11 Call.lat11 Call.at12 Call.lat12 Call.at13 Call.lat13 Call.at14 Call.lat14 Call.at15 Call.lat15 Call.at16 Call.lat16 Call.at17 Call.lat17 Call.at18 Call.lat18 Call.at19 Call.lat19 Call.at20 Call.lat20 Call.at21 Call.lat21 Call.at22 Call.lat22 Call.at23 Call.lat23 Call.sub0_24 Call.lsub0_24 Call.sub9_10 Call.lsub9_10 Call.sub9_2 Call.lsub9_2 Call.sub11_2 Call.lsub11_2 Call.sub13_2 Call.lsub13_2 Call.sub15_2 Call.lsub15_2 Call.sub17_2 Call.lsub17_2 Call.sub19_2 Call.lsub19_2 Call.len Sett.at0 Sett.lat0 Sett.at1 Sett.lat1 Sett.at2 Sett.lat2 Sett.at3 Sett.lat3 Sett.at4 Sett.lat4 Sett.at5 Sett.lat5 Sett.at6 Sett.lat6 Sett.at7 Sett.lat7 Sett.at8 Sett.lat8 Sett.at9 Sett.lat9 Sett.sub0_10 Sett.lsub0_10 Sett.sub0_2 Sett.lsub0_2 Sett.sub2_2 Sett.lsub2_2 Sett.sub4_2 Sett.lsub4_2 Sett.sub6_2 Sett.lsub6_2 Sett.sub8_2 Sett.lsub8_2 Sett.len Opt.at0 Opt.lat0 Opt.at1 Opt.lat1 Opt.sub0_2 Opt.lsub0_2 Opt.len

theorem row_ne_itr {w : World} {base : Nat} {e : TypeId} {size n b pos : Nat} {v : Value} {xs : List Value} {l : List UInt8} (h : w.ownsRow base e size v n xs) (hI : Itr w b l pos) : v.ownBlock ≠ some b := by
  intro hb
  rcases h.2 with ⟨rfl, _⟩ | ⟨g, cap, cur, rfl, _, hg, _⟩
  · simp [Value.ownBlock] at hb
  · simp [Value.ownBlock] at hb
    subst hb
    unfold Itr at hI
    rw [hg] at hI
    cases hI
theorem Wr.foot_ne_itr {w : World} {g b pos : Nat} {sv : Value} {m l : List UInt8} (h : Wr w g sv m) (hI : Itr w b l pos) : ¬ foot g sv b := by
  intro hf
  rcases hf with rfl | hf
  · exact h.1.ne_itr hI rfl
  · exact row_ne_itr h.2 hI hf
/-- the bytes of the first k letters' fields -/
def cLaid (x : Call) (l : List UInt8) (k : Nat) : List UInt8 := (l.take k).flatMap fun c => cBytes x c.toNat
theorem cLaid_succ (x : Call) (l : List UInt8) (k : Nat) (hk : k < l.length) : cLaid x l (k + 1) = cLaid x l k ++ cBytes x l[k].toNat := by
  unfold cLaid
  rw [List.take_add_one, List.getElem?_eq_getElem hk, List.flatMap_append]
  simp
/-- what holds while a call is laid -/
structure Laying (w0 : World) (g h b : Nat) (x : Call) (l : List UInt8) (k : Nat) (W : World) : Prop where
  wr : ∃ sv, Wr W g sv (cLaid x l k) ∧ ∀ i, sv.ownBlock = some i → w0.heap.size ≤ i
  H : Blk W h 84 [ptr g]
  X : Blk W b 57 x.vals
  B : Below w0.heap.size w0 W

theorem put1_any (w0 : World) (g h b : Nat) (hg0 : w0.heap.size ≤ g) (x : Call) (l : List UInt8) (k : Nat) (hk : k < l.length) (hl : cLetter l[k].toNat) (hm : cMay x l[k].toNat = true) (hgo : x.offset ≤ 9223372036854775807) (hgk : x.cookie ≤ 9223372036854775807) (hgv : x.verf ≤ 9223372036854775807) (hgs : x.set.good) (hgg : x.guard.n ≤ 9223372036854775807) (hlen : (cLaid x l k).length ≤ 900000000000) (W : World) (hS : Laying w0 g h b x l k W) :
    Calls Tryd.prog 71 #[.int .i32 l[k].toNat, .pointer (some ⟨h, 0, none⟩), .pointer (some ⟨b, 0, none⟩)] W fun e W' => e = .returned (.bool true) ∧ Laying w0 g h b x l (k + 1) W' ∧ ∀ b l pos, Itr W b l pos → Itr W' b l pos := by
  have HT := Lib.hid (cLaid_succ x l k hk)
  generalize l[k].toNat = c at *
  obtain ⟨⟨sv, hW, hrow⟩, hH, hX, hB⟩ := hS
  have hc := hH.cell
  go_enter Tryd.func71, Tryd.ntmps71
  go_wp2_with fail
  refine (claid_any g b sv _ x c _ hl hW hX hm hgo hgk hgv hgs hgg hlen).mono ?_
  rintro e w1 ⟨rfl, sv1, hW1, hr1, hT1⟩
  rw [← HT.out] at hW1
  have HH : Laying w0 g h b x l (k + 1) w1 := ⟨⟨sv1, hW1, fun i hi => by
      rcases hr1 i hi with h | h
      · exact hrow i h
      · exact Nat.le_trans hB.size h⟩, hW.keeps hH (by decide) (by decide) hT1, hW.keeps hX (by decide) (by decide) hT1,
    hB.trans (hT1.below (fun i _ hf => by
      rcases hf with rfl | hf
      · exact hg0
      · exact hrow i hf) hB.size)⟩
  have HI : ∀ b l pos, Itr W b l pos → Itr w1 b l pos := fun b l pos h => h.touch hT1 (hW.foot_ne_itr h)
  clear hW1 hr1 hT1 hH hX hB hW hrow
  go_wp2
  go_ret
  exact ⟨rfl, HH, HI⟩
end Go.Proofs.YthfhdighniiodaaDoor


/-
  Layer 7, walks: a call's bytes. Conditions: the call's numbers are machine numbers.
-/
namespace Go.Proofs.YthfhdighniiodaaDoor
open Go.RowKit
attribute [local go_sem ↓] Go.wp_at_zero Go.wp_at_succ
attribute [local go_sem] rowAt_ptr rowOf_drew rowOf_drewN rowOf_alloc_past rowOf_new
attribute [local go_sem ↓] ldSet ldOpt ldCall

attribute [local go_sem] Call.at0 Call.lat0 Call.at1 Call.lat1 Call.at2 Call.lat2 Call.at3 Call.lat3 Call.at4 Call.lat4 Call.at5 Call.lat5 Call.at6 Call.lat6 Call.at7 Call.lat7 Call.at8 Call.lat8 Call.at9 Call.lat9 Call.at10 Call.lat10 Call.at11 Call.lat11 Call.at12 Call.lat12 Call.at13 Call.lat13 Call.at14 Call.lat14 Call.at15 Call.lat15 Call.at16 Call.lat16 Call.at17 Call.lat17 Call.at18 Call.lat18 Call.at19 Call.lat19 Call.at20 Call.lat20 Call.at21 Call.lat21 Call.at22 Call.lat22 Call.at23 Call.lat23 Call.sub0_24 Call.lsub0_24 Call.sub9_10 Call.lsub9_10 Call.sub9_2 Call.lsub9_2 Call.sub11_2 Call.lsub11_2 Call.sub13_2 Call.lsub13_2 Call.sub15_2 Call.lsub15_2 Call.sub17_2 Call.lsub17_2 Call.sub19_2 Call.lsub19_2 Call.len Sett.at0 Sett.lat0 Sett.at1 Sett.lat1 Sett.at2 Sett.lat2 Sett.at3 Sett.lat3 Sett.at4 Sett.lat4 Sett.at5 Sett.lat5 Sett.at6 Sett.lat6 Sett.at7 Sett.lat7 Sett.at8 Sett.lat8 Sett.at9 Sett.lat9 Sett.sub0_10 Sett.lsub0_10 Sett.sub0_2 Sett.lsub0_2 Sett.sub2_2 Sett.lsub2_2 Sett.sub4_2 Sett.lsub4_2 Sett.sub6_2 Sett.lsub6_2 Sett.sub8_2 Sett.lsub8_2 Sett.len Opt.at0 Opt.lat0 Opt.at1 Opt.lat1 Opt.sub0_2 Opt.lsub0_2 Opt.len

theorem cCheck_fine {x : Call} (h : cCheck x = 0) : cMayAll x (cFields x.proc) = true := by
  unfold cCheck at h
  split at h
  · cases h
  · split at h
    · next h2 => exact h2.1
    · cases h
/-- a call's bytes, or why there are none -/
def cPut (x : Call) : List UInt8 × Int := if cCheck x = 0 then (cLaid x (cFields x.proc) (cFields x.proc).length, 0) else ([], cCheck x)
theorem cFields_short (p : Int) : (cFields p).length ≤ 5 := by
  unfold cFields
  split
  · simp
  · rcases Nat.lt_or_ge p.toNat lettersC.length with h | h
    · have he : lettersC.getD p.toNat [] = lettersC[p.toNat] := by simp [List.getD, List.getElem?_eq_getElem h]
      rw [he]
      have : ∀ s ∈ lettersC, s.length ≤ 5 := by decide
      exact this _ (List.getElem_mem h)
    · simp [List.getD, List.getElem?_eq_none h]
theorem opq_len (l : List UInt8) : (opq l).length ≤ l.length + 8 := by
  have := padn_lt l.length
  simp only [opq, List.length_append, num_len, filled_len]
  omega
theorem optB_len (b : Bool) (n : Int) : (optB b n).length ≤ 12 := by
  cases b <;> simp [optB, truth, num_len]
theorem optBytes_len (o : Opt) : o.bytes.length ≤ 12 := optB_len o.is o.n
theorem cBytes_len (x : Call) (c : Nat) (hm : cMay x c = true) (hl : cLetter c) : (cBytes x c).length ≤ 600 := by
  have hs : x.set.bytes.length ≤ 60 := by
    have h1 := optBytes_len x.set.mode
    have h2 := optBytes_len x.set.uid
    have h3 := optBytes_len x.set.gid
    have h4 := optBytes_len x.set.size
    have h5 := optBytes_len x.set.time
    simp only [Sett.bytes, List.length_append]
    omega
  have ho := optB_len x.guard.is x.guard.n
  have o1 := opq_len x.fh
  have o2 := opq_len x.fh2
  have o3 := opq_len x.name
  have o4 := opq_len x.name2
  have o5 := opq_len x.text
  have o6 := opq_len x.data
  rcases hl with rfl | rfl | rfl | rfl | rfl | rfl | rfl | rfl | rfl | rfl | rfl | rfl | rfl
  all_goals
    simp [cMay] at hm
    simp [cBytes, num_len]
    try omega
theorem cLaid_len (x : Call) (l : List UInt8) (hm : cMayAll x l = true) (hl : ∀ k (hk : k < l.length), cLetter l[k].toNat) (k : Nat) (hk : k ≤ l.length) : (cLaid x l k).length ≤ 600 * k := by
  induction k with
  | zero => simp [cLaid]
  | succ k ih =>
    have h1 := ih (by omega)
    have hlt : k < l.length := by omega
    rw [cMayAll, List.all_eq_true] at hm
    have h2 := cBytes_len x l[k].toNat (hm _ (List.getElem_mem hlt)) (hl k hlt)
    rw [cLaid_succ x l k hlt, List.length_append]
    omega
end Go.Proofs.YthfhdighniiodaaDoor
