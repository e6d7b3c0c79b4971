/-
  Layer 7, walks: what is to be set, and the guard, are laid; every letter's field. Conditions: a writer and a call at blocks of their own; the field may be.
-/
import Derived.Test.YtfjflkmhhbhceaaGreatDoorW14
import Derived.Test.YtfjflkmhhbhceaaGreatDoorW11
import Derived.Test.YtfjflkmhhbhceaaGreatDoorW13
import Derived.Test.YtfjflkmhhbhceaaGreatDoorW08
import Derived.Test.YtfjflkmhhbhceaaGreatDoorW02
import Derived.Outline
import Derived.Test.YtfjflkmhhbhceaaGreatDoorW10
namespace Go.Proofs.YtfjflkmhhbhceaaGreatDoor
open Go.RowKit
attribute [local go_sem ↓] Go.wp_at_zero Go.wp_at_succ
attribute [local go_sem] rowAt_ptr rowOf_drew rowOf_drewN rowOf_alloc_past rowOf_new
attribute [local go_sem ↓] ldSet ldOpt ldCall

attribute [local go_sem] Call.at0 Call.lat0 Call.at1 Call.lat1 Call.at2 Call.lat2 Call.at3 Call.lat3 Call.at4 Call.lat4 Call.at5 Call.lat5 Call.at6 Call.lat6 Call.at7 Call.lat7 Call.at8 Call.lat8 Call.at9 Call.lat9 Call.at10 Call.lat10 Call.at11 Call.lat11 Call.at12 Call.lat12 Call.at13 Call.lat13 Call.at14 Call.lat14 Call.at15 Call.lat15 Call.at16 Call.lat16 Call.at17 Call.lat17 Call.at18 Call.lat18 Call.at19 Call.lat19 Call.at20 Call.lat20 Call.at21 Call.lat21 Call.at22 Call.lat22 Call.at23 Call.lat23 Call.sub0_24 Call.lsub0_24 Call.sub9_10 Call.lsub9_10 Call.sub9_2 Call.lsub9_2 Call.sub11_2 Call.lsub11_2 Call.sub13_2 Call.lsub13_2 Call.sub15_2 Call.lsub15_2 Call.sub17_2 Call.lsub17_2 Call.sub19_2 Call.lsub19_2 Call.len Sett.at0 Sett.lat0 Sett.at1 Sett.lat1 Sett.at2 Sett.lat2 Sett.at3 Sett.lat3 Sett.at4 Sett.lat4 Sett.at5 Sett.lat5 Sett.at6 Sett.lat6 Sett.at7 Sett.lat7 Sett.at8 Sett.lat8 Sett.at9 Sett.lat9 Sett.sub0_10 Sett.lsub0_10 Sett.sub0_2 Sett.lsub0_2 Sett.sub2_2 Sett.lsub2_2 Sett.sub4_2 Sett.lsub4_2 Sett.sub6_2 Sett.lsub6_2 Sett.sub8_2 Sett.lsub8_2 Sett.len Opt.at0 Opt.lat0 Opt.at1 Opt.lat1 Opt.sub0_2 Opt.lsub0_2 Opt.len

theorem claid_s (g b : Nat) (sv : Value) (l : List UInt8) (x : Call) (w : World) (hW : Wr w g sv l) (hB : Blk w b 36 x.vals) (hm : cMay x 115 = true) (hg : x.set.good) (hl : l.length ≤ 900000000000) :
    Calls Tryz.prog 126 #[ptr g, .pointer (some ⟨b, 0, none⟩), .int .i32 115] w (Wrote g sv (l ++ cBytes x 115) (.tuple #[]) w) := by
  have hr : rowOf w b 9 10 = some x.set.vals.toArray := hB.row 9 10 (by simp [Call.len])
  have hm2 : x.set.ok = true := by simpa [cMay] using hm
  have HS := Lib.hid (show cBytes x 115 = x.set.bytes by simp [cBytes])
  go_enter Tryz.func126, Tryz.ntmps126
  go_wp2_with fail
  refine (putSet_any g sv l x.set _ hW hm2 hg hl).mono ?_
  rintro e w1 ⟨rfl, hM⟩
  rw [← HS.out] at hM
  have HM := Lib.hid hM
  clear hM
  go_wp2
  go_end0
  exact ⟨rfl, HM.out⟩
theorem claid_g (g b : Nat) (sv : Value) (l : List UInt8) (x : Call) (w : World) (hW : Wr w g sv l) (hB : Blk w b 36 x.vals) (hm : cMay x 103 = true) (hg : x.guard.n ≤ 9223372036854775807) (hl : l.length ≤ 900000000000) :
    Calls Tryz.prog 126 #[ptr g, .pointer (some ⟨b, 0, none⟩), .int .i32 103] w (Wrote g sv (l ++ cBytes x 103) (.tuple #[]) w) := by
  have hr : rowOf w b 19 2 = some x.guard.vals.toArray := hB.row 19 2 (by simp [Call.len])
  have hm2 : 0 ≤ x.guard.n := by simp [cMay] at hm; exact hm.1
  have HS := Lib.hid (show cBytes x 103 = optB x.guard.is x.guard.n by simp [cBytes])
  go_enter Tryz.func126, Tryz.ntmps126
  go_wp2_with fail
  refine (wOpt_any g sv l x.guard.is x.guard.n _ hW (fun _ => hm2) hg (by omega)).mono ?_
  rintro e w1 ⟨rfl, hM⟩
  rw [← HS.out] at hM
  have HM := Lib.hid hM
  clear hM
  go_wp2
  go_end0
  exact ⟨rfl, HM.out⟩
theorem claid_any (g b : Nat) (sv : Value) (l : List UInt8) (x : Call) (c : Nat) (w : World) (hc : cLetter c) (hW : Wr w g sv l) (hB : Blk w b 36 x.vals) (hm : cMay x c = true) (hgo : x.offset ≤ 9223372036854775807) (hgk : x.cookie ≤ 9223372036854775807) (hgv : x.verf ≤ 9223372036854775807) (hgs : x.set.good) (hgg : x.guard.n ≤ 9223372036854775807) (hl : l.length ≤ 900000000000) :
    Calls Tryz.prog 126 #[ptr g, .pointer (some ⟨b, 0, none⟩), .int .i32 c] w (Wrote g sv (l ++ cBytes x c) (.tuple #[]) w) := by
  rcases hc with rfl | rfl | rfl | rfl | rfl | rfl | rfl | rfl | rfl | rfl | rfl | rfl | rfl
  · exact claid_f g b sv l x w hW hB hm hl
  · exact claid_f2 g b sv l x w hW hB hm hl
  · exact claid_n g b sv l x w hW hB hm hl
  · exact claid_n2 g b sv l x w hW hB hm hl
  · exact claid_t g b sv l x w hW hB hm hl
  · exact claid_d g b sv l x w hW hB hm hl
  · exact claid_o g b sv l x w hW hB hm hgo hl
  · exact claid_k g b sv l x w hW hB hm hgk hl
  · exact claid_v g b sv l x w hW hB hm hgv hl
  · exact claid_c g b sv l x w hW hB hm hl
  · exact claid_h g b sv l x w hW hB hm hl
  · exact claid_s g b sv l x w hW hB hm hgs hl
  · exact claid_g g b sv l x w hW hB hm hgg hl
end Go.Proofs.YtfjflkmhhbhceaaGreatDoor

/-
  Layer 7, walks: the closure that lays a letter's field. Conditions as told.
-/
namespace Go.Proofs.YtfjflkmhhbhceaaGreatDoor
open Go.RowKit
attribute [local go_sem ↓] Go.wp_at_zero Go.wp_at_succ
attribute [local go_sem] rowAt_ptr rowOf_drew rowOf_drewN rowOf_alloc_past rowOf_new
attribute [local go_sem ↓] ldSet ldOpt ldCall

attribute [local go_sem] Call.at0 Call.lat0 Call.at1 Call.lat1 Call.at2 Call.lat2 Call.at3 Call.lat3 Call.at4 Call.lat4 Call.at5 Call.lat5 Call.at6 Call.lat6 Call.at7 Call.lat7 Call.at8 Call.lat8 Call.at9 Call.lat9 Call.at10 Call.lat10 Call.at11 Call.lat11 Call.at12 Call.lat12 Call.at13 Call.lat13 Call.at14 Call.lat14 Call.at15 Call.lat15 Call.at16 Call.lat16 Call.at17 Call.lat17 Call.at18 Call.lat18 Call.at19 Call.lat19 Call.at20 Call.lat20 Call.at21 Call.lat21 Call.at22 Call.lat22 Call.at23 Call.lat23 Call.sub0_24 Call.lsub0_24 Call.sub9_10 Call.lsub9_10 Call.sub9_2 Call.lsub9_2 Call.sub11_2 Call.lsub11_2 Call.sub13_2 Call.lsub13_2 Call.sub15_2 Call.lsub15_2 Call.sub17_2 Call.lsub17_2 Call.sub19_2 Call.lsub19_2 Call.len Sett.at0 Sett.lat0 Sett.at1 Sett.lat1 Sett.at2 Sett.lat2 Sett.at3 Sett.lat3 Sett.at4 Sett.lat4 Sett.at5 Sett.lat5 Sett.at6 Sett.lat6 Sett.at7 Sett.lat7 Sett.at8 Sett.lat8 Sett.at9 Sett.lat9 Sett.sub0_10 Sett.lsub0_10 Sett.sub0_2 Sett.lsub0_2 Sett.sub2_2 Sett.lsub2_2 Sett.sub4_2 Sett.lsub4_2 Sett.sub6_2 Sett.lsub6_2 Sett.sub8_2 Sett.lsub8_2 Sett.len Opt.at0 Opt.lat0 Opt.at1 Opt.lat1 Opt.sub0_2 Opt.lsub0_2 Opt.len

theorem row_ne_itr {w : World} {base : Nat} {e : TypeId} {size n b pos : Nat} {v : Value} {xs : List Value} {l : List UInt8} (h : w.ownsRow base e size v n xs) (hI : Itr w b l pos) : v.ownBlock ≠ some b := by
  intro hb
  rcases h.2 with ⟨rfl, _⟩ | ⟨g, cap, cur, rfl, _, hg, _⟩
  · simp [Value.ownBlock] at hb
  · simp [Value.ownBlock] at hb
    subst hb
    unfold Itr at hI
    rw [hg] at hI
    cases hI
theorem Wr.foot_ne_itr {w : World} {g b pos : Nat} {sv : Value} {m l : List UInt8} (h : Wr w g sv m) (hI : Itr w b l pos) : ¬ foot g sv b := by
  intro hf
  rcases hf with rfl | hf
  · exact h.1.ne_itr hI rfl
  · exact row_ne_itr h.2 hI hf
/-- the bytes of the first k letters' fields -/
def cLaid (x : Call) (l : List UInt8) (k : Nat) : List UInt8 := (l.take k).flatMap fun c => cBytes x c.toNat
theorem cLaid_succ (x : Call) (l : List UInt8) (k : Nat) (hk : k < l.length) : cLaid x l (k + 1) = cLaid x l k ++ cBytes x l[k].toNat := by
  unfold cLaid
  rw [List.take_add_one, List.getElem?_eq_getElem hk, List.flatMap_append]
  simp
/-- what holds while a call is laid -/
structure Laying (w0 : World) (g h b : Nat) (x : Call) (l : List UInt8) (k : Nat) (W : World) : Prop where
  wr : ∃ sv, Wr W g sv (cLaid x l k) ∧ ∀ i, sv.ownBlock = some i → w0.heap.size ≤ i
  H : Blk W h 193 [ptr g]
  X : Blk W b 36 x.vals
  B : Below w0.heap.size w0 W

theorem put1_any (w0 : World) (g h b : Nat) (hg0 : w0.heap.size ≤ g) (x : Call) (l : List UInt8) (k : Nat) (hk : k < l.length) (hl : cLetter l[k].toNat) (hm : cMay x l[k].toNat = true) (hgo : x.offset ≤ 9223372036854775807) (hgk : x.cookie ≤ 9223372036854775807) (hgv : x.verf ≤ 9223372036854775807) (hgs : x.set.good) (hgg : x.guard.n ≤ 9223372036854775807) (hlen : (cLaid x l k).length ≤ 900000000000) (W : World) (hS : Laying w0 g h b x l k W) :
    Calls Tryz.prog 125 #[.int .i32 l[k].toNat, .pointer (some ⟨h, 0, none⟩), .pointer (some ⟨b, 0, none⟩)] W fun e W' => e = .returned (.bool true) ∧ Laying w0 g h b x l (k + 1) W' ∧ ∀ b l pos, Itr W b l pos → Itr W' b l pos := by
  have HT := Lib.hid (cLaid_succ x l k hk)
  generalize l[k].toNat = c at *
  obtain ⟨⟨sv, hW, hrow⟩, hH, hX, hB⟩ := hS
  have hc := hH.cell
  go_enter Tryz.func125, Tryz.ntmps125
  go_wp2_with fail
  refine (claid_any g b sv _ x c _ hl hW hX hm hgo hgk hgv hgs hgg hlen).mono ?_
  rintro e w1 ⟨rfl, sv1, hW1, hr1, hT1⟩
  rw [← HT.out] at hW1
  have HH : Laying w0 g h b x l (k + 1) w1 := ⟨⟨sv1, hW1, fun i hi => by
      rcases hr1 i hi with h | h
      · exact hrow i h
      · exact Nat.le_trans hB.size h⟩, hW.keeps hH (by decide) (by decide) hT1, hW.keeps hX (by decide) (by decide) hT1,
    hB.trans (hT1.below (fun i _ hf => by
      rcases hf with rfl | hf
      · exact hg0
      · exact hrow i hf) hB.size)⟩
  have HI : ∀ b l pos, Itr W b l pos → Itr w1 b l pos := fun b l pos h => h.touch hT1 (hW.foot_ne_itr h)
  clear hW1 hr1 hT1 hH hX hB hW hrow
  go_wp2
  go_ret
  exact ⟨rfl, HH, HI⟩
end Go.Proofs.YtfjflkmhhbhceaaGreatDoor


/-
  Layer 7, walks: a call's bytes. Conditions: the call's numbers are machine numbers.
-/
namespace Go.Proofs.YtfjflkmhhbhceaaGreatDoor
open Go.RowKit
attribute [local go_sem ↓] Go.wp_at_zero Go.wp_at_succ
attribute [local go_sem] rowAt_ptr rowOf_drew rowOf_drewN rowOf_alloc_past rowOf_new
attribute [local go_sem ↓] ldSet ldOpt ldCall

attribute [local go_sem] Call.at0 Call.lat0 Call.at1 Call.lat1 Call.at2 Call.lat2 Call.at3 Call.lat3 Call.at4 Call.lat4 Call.at5 Call.lat5 Call.at6 Call.lat6 Call.at7 Call.lat7 Call.at8 Call.lat8 Call.at9 Call.lat9 Call.at10 Call.lat10 Call.at11 Call.lat11 Call.at12 Call.lat12 Call.at13 Call.lat13 Call.at14 Call.lat14 Call.at15 Call.lat15 Call.at16 Call.lat16 Call.at17 Call.lat17 Call.at18 Call.lat18 Call.at19 Call.lat19 Call.at20 Call.lat20 Call.at21 Call.lat21 Call.at22 Call.lat22 Call.at23 Call.lat23 Call.sub0_24 Call.lsub0_24 Call.sub9_10 Call.lsub9_10 Call.sub9_2 Call.lsub9_2 Call.sub11_2 Call.lsub11_2 Call.sub13_2 Call.lsub13_2 Call.sub15_2 Call.lsub15_2 Call.sub17_2 Call.lsub17_2 Call.sub19_2 Call.lsub19_2 Call.len Sett.at0 Sett.lat0 Sett.at1 Sett.lat1 Sett.at2 Sett.lat2 Sett.at3 Sett.lat3 Sett.at4 Sett.lat4 Sett.at5 Sett.lat5 Sett.at6 Sett.lat6 Sett.at7 Sett.lat7 Sett.at8 Sett.lat8 Sett.at9 Sett.lat9 Sett.sub0_10 Sett.lsub0_10 Sett.sub0_2 Sett.lsub0_2 Sett.sub2_2 Sett.lsub2_2 Sett.sub4_2 Sett.lsub4_2 Sett.sub6_2 Sett.lsub6_2 Sett.sub8_2 Sett.lsub8_2 Sett.len Opt.at0 Opt.lat0 Opt.at1 Opt.lat1 Opt.sub0_2 Opt.lsub0_2 Opt.len

theorem cCheck_fine {x : Call} (h : cCheck x = 0) : cMayAll x (cFields x.proc) = true := by
  unfold cCheck at h
  split at h
  · cases h
  · split at h
    · next h2 => exact h2.1
    · cases h
/-- a call's bytes, or why there are none -/
def cPut (x : Call) : List UInt8 × Int := if cCheck x = 0 then (cLaid x (cFields x.proc) (cFields x.proc).length, 0) else ([], cCheck x)
theorem cFields_short (p : Int) : (cFields p).length ≤ 5 := by
  unfold cFields
  split
  · simp
  · rcases Nat.lt_or_ge p.toNat lettersC.length with h | h
    · have he : lettersC.getD p.toNat [] = lettersC[p.toNat] := by simp [List.getD, List.getElem?_eq_getElem h]
      rw [he]
      have : ∀ s ∈ lettersC, s.length ≤ 5 := by decide
      exact this _ (List.getElem_mem h)
    · simp [List.getD, List.getElem?_eq_none h]
theorem opq_len (l : List UInt8) : (opq l).length ≤ l.length + 8 := by
  have := padn_lt l.length
  simp only [opq, List.length_append, num_len, filled_len]
  omega
theorem optB_len (b : Bool) (n : Int) : (optB b n).length ≤ 12 := by
  cases b <;> simp [optB, truth, num_len]
theorem optBytes_len (o : Opt) : o.bytes.length ≤ 12 := optB_len o.is o.n
theorem cBytes_len (x : Call) (c : Nat) (hm : cMay x c = true) (hl : cLetter c) : (cBytes x c).length ≤ 600 := by
  have hs : x.set.bytes.length ≤ 60 := by
    have h1 := optBytes_len x.set.mode
    have h2 := optBytes_len x.set.uid
    have h3 := optBytes_len x.set.gid
    have h4 := optBytes_len x.set.size
    have h5 := optBytes_len x.set.time
    simp only [Sett.bytes, List.length_append]
    omega
  have ho := optB_len x.guard.is x.guard.n
  have o1 := opq_len x.fh
  have o2 := opq_len x.fh2
  have o3 := opq_len x.name
  have o4 := opq_len x.name2
  have o5 := opq_len x.text
  have o6 := opq_len x.data
  rcases hl with rfl | rfl | rfl | rfl | rfl | rfl | rfl | rfl | rfl | rfl | rfl | rfl | rfl
  all_goals
    simp [cMay] at hm
    simp [cBytes, num_len]
    try omega
theorem cLaid_len (x : Call) (l : List UInt8) (hm : cMayAll x l = true) (hl : ∀ k (hk : k < l.length), cLetter l[k].toNat) (k : Nat) (hk : k ≤ l.length) : (cLaid x l k).length ≤ 600 * k := by
  induction k with
  | zero => simp [cLaid]
  | succ k ih =>
    have h1 := ih (by omega)
    have hlt : k < l.length := by omega
    rw [cMayAll, List.all_eq_true] at hm
    have h2 := cBytes_len x l[k].toNat (hm _ (List.getElem_mem hlt)) (hl k hlt)
    rw [cLaid_succ x l k hlt, List.length_append]
    omega
end Go.Proofs.YtfjflkmhhbhceaaGreatDoor


/-
  Layer 5, walks: what was ahead and behind, and what is to be set, are got. Conditions: a reader at a block of its own; texts are machine texts.
-/
namespace Go.Proofs.YtfjflkmhhbhceaaGreatDoor
open Go.RowKit
attribute [local go_sem ↓] Go.wp_at_zero Go.wp_at_succ
attribute [local go_sem] rowAt_ptr rowOf_drew rowOf_drewN rowOf_alloc_past rowOf_new
attribute [local go_sem ↓] ldAttrR ldOpt ldSet ldPost ldWcc

attribute [local go_sem] Attr.at0 Attr.lat0 Attr.at1 Attr.lat1 Attr.at2 Attr.lat2 Attr.at3 Attr.lat3 Attr.at4 Attr.lat4 Attr.at5 Attr.lat5 Attr.at6 Attr.lat6 Attr.at7 Attr.lat7 Attr.at8 Attr.lat8 Attr.at9 Attr.lat9 Attr.sub0_10 Attr.lsub0_10 Attr.len Opt.at0 Opt.lat0 Opt.at1 Opt.lat1 Opt.sub0_2 Opt.lsub0_2 Opt.len Sett.at0 Sett.lat0 Sett.at1 Sett.lat1 Sett.at2 Sett.lat2 Sett.at3 Sett.lat3 Sett.at4 Sett.lat4 Sett.at5 Sett.lat5 Sett.at6 Sett.lat6 Sett.at7 Sett.lat7 Sett.at8 Sett.lat8 Sett.at9 Sett.lat9 Sett.sub0_10 Sett.lsub0_10 Sett.sub0_2 Sett.lsub0_2 Sett.sub2_2 Sett.lsub2_2 Sett.sub4_2 Sett.lsub4_2 Sett.sub6_2 Sett.lsub6_2 Sett.sub8_2 Sett.lsub8_2 Sett.len Post.at0 Post.lat0 Post.at1 Post.lat1 Post.at2 Post.lat2 Post.at3 Post.lat3 Post.at4 Post.lat4 Post.at5 Post.lat5 Post.at6 Post.lat6 Post.at7 Post.lat7 Post.at8 Post.lat8 Post.at9 Post.lat9 Post.at10 Post.lat10 Post.sub0_11 Post.lsub0_11 Post.sub1_10 Post.lsub1_10 Post.len Wcc.at0 Wcc.lat0 Wcc.at1 Wcc.lat1 Wcc.at2 Wcc.lat2 Wcc.at3 Wcc.lat3 Wcc.at4 Wcc.lat4 Wcc.at5 Wcc.lat5 Wcc.at6 Wcc.lat6 Wcc.at7 Wcc.lat7 Wcc.at8 Wcc.lat8 Wcc.at9 Wcc.lat9 Wcc.at10 Wcc.lat10 Wcc.at11 Wcc.lat11 Wcc.at12 Wcc.lat12 Wcc.sub0_13 Wcc.lsub0_13 Wcc.sub0_2 Wcc.lsub0_2 Wcc.sub2_11 Wcc.lsub2_11 Wcc.sub3_10 Wcc.lsub3_10 Wcc.len optV

theorem setAt_wcc (o : Opt) (p : Post) : setAt (Wcc.vals ⟨o, postZ⟩) 2 p.vals = Wcc.vals ⟨o, p⟩ := rfl
set_option maxHeartbeats 3200000 in
theorem getWcc_any (g : Nat) (r : Rs) (w : World) (hR : Rd w g r) (hl : r.s.length ≤ 9223372036854775807) :
    Calls Tryz.prog 176 #[.pointer (some ⟨g, 0, none⟩)] w (Gave g (rWcc r).2 (gotV (gotR Wcc.ok wccZ (rWcc r)).1.vals (gotR Wcc.ok wccZ (rWcc r)).2) w) := by
  have hb := Blk.new w 47 wccZ.vals
  have hB : Below w.heap.size w (w.alloc (.cells wccZ.vals.toArray 47)) := (Below.refl _ _).alloc (Nat.le_refl _) _
  have hR1 := hR.stays hB
  have hne : w.heap.size ≠ g := Nat.ne_of_gt hR.lt
  have hgl := hR.lt
  have hl2 := rOpt_len hl
  have hg := rWcc_good hl
  clear hR
  go_enter Tryz.func176, Tryz.ntmps176
  go_wp2_with fail
  change Calls _ _ _ (w.alloc (.cells wccZ.vals.toArray 47)) _
  generalize w.alloc (.cells wccZ.vals.toArray 47) = w0 at *
  refine (rOpt_any g r _ hR1 hl).mono ?_
  rintro e w1 ⟨he, hQ⟩
  obtain ⟨x, hx⟩ : ∃ x, x = rOpt r := ⟨_, rfl⟩
  rw [← hx] at he hQ hl2
  have HX := Lib.hid hx
  clear hx
  subst he
  obtain ⟨⟨o1, o2⟩, rr⟩ := x
  simp only at hQ hl2
  have hb1 := (hQ.keeps hb hne).alloc (.cells (Wcc.vals ⟨optOf (o1, o2), postZ⟩).toArray 47)
  have hp1 := Blk.new w1 47 (Wcc.vals ⟨optOf (o1, o2), postZ⟩)
  have hQ1 := (Reads.behind hB hQ).new ((Below.refl _ _).alloc (Nat.le_refl _) (.cells (Wcc.vals ⟨optOf (o1, o2), postZ⟩).toArray 47))
  have hne1 : w1.heap.size ≠ g := by have := hQ.1.lt; omega
  have hlt2 : w.heap.size < w1.heap.size := (hQ.keeps hb hne).lt
  have hne2 : w.heap.size ≠ w1.heap.size := by omega
  have hR2 := hQ1.1
  clear hQ hb
  go_wp2_with fail
  change Calls _ _ _ (w1.alloc (.cells (Wcc.vals ⟨optOf (o1, o2), postZ⟩).toArray 47)) _
  generalize w1.alloc (.cells (Wcc.vals ⟨optOf (o1, o2), postZ⟩).toArray 47) = w2 at *
  refine (posted_any g rr _ hR2 (by omega)).mono ?_
  rintro e w3 ⟨he, hQ3⟩
  obtain ⟨p, hp⟩ : ∃ p, p = rPost rr := ⟨_, rfl⟩
  rw [← hp] at he hQ3
  have HP := Lib.hid hp
  clear hp
  subst he
  obtain ⟨pv, rs⟩ := p
  simp only at hQ3
  have hb3 := hQ3.keeps hb1 hne
  have hp3 := hQ3.keeps hp1 hne1
  have hQ4 := hQ1.trans hQ3
  have hp4 := hp3.sets pv.vals _ 2
  rw [setAt_wcc] at hp4
  have hb4 := Blk.farCells (g := w.heap.size) hne2 pv.vals 2 _ hb3
  have hQ5 : Reads g rs w (w3.setCells w1.heap.size 2 pv.vals) := ⟨hQ4.1.touch (Touch.setCells (F := fun k => k = w1.heap.size) (.inl rfl) _ 2 w3 (Touch.refl _ _)) (fun hh => hne1 hh.symm), Touch.setCells (.inr (by omega)) _ 2 w3 hQ4.2⟩
  have rp : rowOf (w3.setCells w1.heap.size 2 pv.vals) w1.heap.size 0 13 = some (Wcc.vals ⟨optOf (o1, o2), pv⟩).toArray := hp4.row 0 13 (by simp [Wcc.len])
  obtain ⟨w4, hw4⟩ : ∃ w4, w4 = w3.setCells w1.heap.size 2 pv.vals := ⟨_, rfl⟩
  rw [← hw4] at rp hb4 hQ5
  have HW4 := Lib.hid hw4
  clear hQ1 hQ3 hQ4 hp4 hb1 hb3 hp1 hR2 hw4
  go_wp2_with (first | (refine wpList_store_part (by rfl) 45 _ _ (by rfl) w1.heap.size 2 pv.vals _ hp3 (by simp [Post.len, Wcc.len]) (by rfl) (by rfl) (by kernel_rfl) (Post.one _) ?_; rw [← HW4.out]) | fail)
  have hw : rWcc r = (⟨optOf (o1, o2), pv⟩, rs) := by unfold rWcc; rw [← HX.out]; simp only; rw [← HP.out]
  rw [hw] at hg
  refine (gotWcc_any g rs ⟨optOf (o1, o2), pv⟩ _ hQ5.1 hg).mono ?_
  rintro e w5 ⟨he, hb⟩
  have hb5 := hb4.stays hb
  have hQ6 := hQ5.new hb
  obtain ⟨y, hy⟩ : ∃ y, y = gotR Wcc.ok wccZ (⟨optOf (o1, o2), pv⟩, rs) := ⟨_, rfl⟩
  rw [← hy] at he
  have HY := Lib.hid hy
  have HWW := Lib.hid hw
  clear hy hw hb hb4 hQ5 rp
  subst he
  unfold gotV
  obtain ⟨y1, y2⟩ := y
  have HQ := Lib.hid (Reads.lay (cs := y1.vals) hQ6 hb5 rfl hne (Nat.le_refl _))
  clear hQ6
  go_wp2_with (first | (refine wpList_store_whole (by rfl) 47 _ _ (by rfl) w.heap.size y1.vals _ hb5 (by rfl) (by rfl) (by rfl) (by kernel_rfl) (Wcc.one _) ?_) | fail)
  refine ret_cells2 w.heap.size 0 y1.vals (.int .i64 y2) Tryz.results176 Tryz.underlying47 rfl (by kernel_rfl) rfl rfl HQ.out.2.range rfl ?_
  rw [HWW.out, ← HY.out]
  exact ⟨rfl, HQ.out.1⟩

/-- the first k options are read -/
def setOpt (s : Sett) (o : Opt) : Nat → Sett
  | 0 => { s with mode := o }
  | 1 => { s with uid := o }
  | 2 => { s with gid := o }
  | 3 => { s with size := o }
  | _ => { s with time := o }
def settK : Nat → Rs → Sett × Rs
  | 0, r => (settZ, r)
  | k + 1, r => (setOpt (settK k r).1 (optOf (rOpt (settK k r).2).1) k, (rOpt (settK k r).2).2)
def rSett (r : Rs) : Sett × Rs := settK 5 r
theorem settK_len (r : Rs) (k : Nat) (h : r.s.length ≤ 9223372036854775807) : (settK k r).2.s.length ≤ 9223372036854775807 := by
  induction k with
  | zero => exact h
  | succ k ih => exact Nat.le_trans (rOpt_len ih) ih
end Go.Proofs.YtfjflkmhhbhceaaGreatDoor


/-
  Layer 9, walks: a message's bytes. Conditions: a message that may be, of at most 2048 bytes.
-/
namespace Go.Proofs.YtfjflkmhhbhceaaGreatDoor
open Go.RowKit
attribute [local go_sem ↓] Go.wp_at_zero Go.wp_at_succ
attribute [local go_sem] rowAt_ptr rowOf_drew rowOf_drewN rowOf_alloc_past rowOf_new
attribute [local go_sem ↓] eqCred eqCred0 ldCred ldMessage

attribute [local go_sem] guardCred Message.at0 Message.lat0 Message.at1 Message.lat1 Message.at2 Message.lat2 Message.at3 Message.lat3 Message.at4 Message.lat4 Message.at5 Message.lat5 Message.at6 Message.lat6 Message.at7 Message.lat7 Message.at8 Message.lat8 Message.at9 Message.lat9 Message.sub0_10 Message.lsub0_10 Message.sub4_4 Message.lsub4_4 Message.len Cred.at0 Cred.lat0 Cred.at1 Cred.lat1 Cred.at2 Cred.lat2 Cred.at3 Cred.lat3 Cred.sub0_4 Cred.lsub0_4 Cred.len

def intsV (l : List Int) : List Value := l.map fun n => .int .i64 n
theorem intsV_get {w : World} {h : Nat} {T : TypeId} {l : List Int} (hB : Blk w h T (intsV l)) {k : Nat} (hk : k < l.length) : w.cell? ⟨h, k, none⟩ = some (.int .i64 l[k]) := by
  rw [hB.cell]; simp [intsV, hk]
def in32 (l : List Int) : Bool := l.all fun n => decide (0 ≤ n) && decide (n ≤ 4294967295)
theorem in32_get {l : List Int} (h : in32 l = true) {k : Nat} (hk : k < l.length) : 0 ≤ l[k] ∧ l[k] ≤ 4294967295 := by
  have := List.all_eq_true.1 h l[k] (List.getElem_mem hk)
  simpa using this
theorem nums4_succ {l : List Int} {k : Nat} (hk : k < l.length) : nums4 (l.take (k + 1)) = nums4 (l.take k) ++ num (l[k]).toNat 4 := by
  unfold nums4; rw [take_next _ _ hk, List.flatMap_append]; simp
theorem nums4_len (l : List Int) : (nums4 l).length = 4 * l.length := by
  induction l with
  | nil => rfl
  | cons n l ih => unfold nums4 at *; simp only [List.flatMap_cons, List.length_append, num_len, ih, List.length_cons]; omega
theorem may_in32 {m : Message} (h : m.may = true) : in32 m.nums = true := by
  obtain ⟨xid, answer, again, proc, cred, accept, body⟩ := m
  cases answer <;> cases again <;> first | (simp [Message.may, num32, thereP, Cred.ok, cred0] at h; done) | (simp [Message.may, num32, thereP, Cred.ok, cred0] at h; simp [Message.nums, in32]; grind)
theorem may_body {m : Message} (h : m.may = true) : m.body.length % 4 = 0 := by
  simp [Message.may] at h; exact h.2.1

def chain9 (w : World) (m : Message) (l : List Int) : World :=
  ((w.alloc (.cells m.vals.toArray 81)).alloc (.cells #[.slice none 0 0] 195)).alloc (.cells (intsV l).toArray 3)
theorem chain9_one (w : World) (m : Message) (l : List Int) : Wr (chain9 w m l) (w.heap.size + 1) (.slice none 0 0) [] ∧ Blk (chain9 w m l) (w.heap.size + 1 + 1) 3 (intsV l) ∧ Blk (chain9 w m l) w.heap.size 81 m.vals ∧ Below w.heap.size w (chain9 w m l) := by
  have b0 := Blk.new w 81 m.vals
  have B0 : Below w.heap.size w (w.alloc (.cells m.vals.toArray 81)) := (Below.refl _ _).alloc (Nat.le_refl _) _
  have e0 : (w.alloc (.cells m.vals.toArray 81)).heap.size = w.heap.size + 1 := by simp
  unfold chain9
  generalize w.alloc (.cells m.vals.toArray 81) = w0 at *
  have b1 := Wr.fresh w0
  have B1 := B0.alloc B0.size (.cells #[.slice none 0 0] 195)
  have e1 : (w0.alloc (.cells #[.slice none 0 0] 195)).heap.size = w.heap.size + 1 + 1 := by simp [e0]
  have a1 := b0.alloc (.cells #[.slice none 0 0] 195)
  generalize w0.alloc (.cells #[.slice none 0 0] 195) = w1 at *
  have b2 := Blk.new w1 3 (intsV l)
  have B2 := B1.alloc B1.size (.cells (intsV l).toArray 3)
  rw [e1] at b2
  rw [e0] at b1
  exact ⟨b1.alloc _, b2, a1.alloc _, B2⟩
theorem chain9_two (w : World) (m : Message) (l l' : List Int) : Wr ((chain9 w m l).alloc (.cells (intsV l').toArray 3)) (w.heap.size + 1) (.slice none 0 0) [] ∧ Blk ((chain9 w m l).alloc (.cells (intsV l').toArray 3)) (w.heap.size + 1 + 1 + 1) 3 (intsV l') ∧
    Blk ((chain9 w m l).alloc (.cells (intsV l').toArray 3)) w.heap.size 81 m.vals ∧ Below w.heap.size w ((chain9 w m l).alloc (.cells (intsV l').toArray 3)) := by
  obtain ⟨a, _, c, d⟩ := chain9_one w m l
  have e : (chain9 w m l).heap.size = w.heap.size + 1 + 1 + 1 := by simp [chain9]
  have b := Blk.new (chain9 w m l) 3 (intsV l')
  rw [e] at b
  exact ⟨a.alloc _, b, c.alloc _, d.alloc d.size _⟩

set_option maxHeartbeats 3200000 in
theorem laid9_any (m : Message) (w : World) (hm : m.may = true) (hl : m.body.length ≤ 2048) : Calls Tryz.prog 129 #[.agg m.vals.toArray] w fun e w' => e = .returned (.string (bs m.bytes)) ∧ Below w.heap.size w w' := by
  have H32 := Lib.hid (may_in32 hm)
  have HM := Lib.hid hm
  clear hm
  cases ha : m.answer
  · have HN := Lib.hid (show m.nums = [m.xid, 0, 2, 100003, 3, m.proc, 1, 16, m.cred.client, m.cred.seq, m.cred.uid, m.cred.gid, 0, 0] by simp [Message.nums, ha])
    have HLen := Lib.hid (show m.nums.length = 14 by simp [Message.nums, ha])
    cases hg : m.again
    · have HW := Lib.hid (chain9_two w m [m.xid, 1, 0, 0, 0, m.accept] m.nums)
      rw [HN.out] at HW
      go_enter Tryz.func129, Tryz.ntmps129
      go_wp2
      change Code.wp _ _ _ _ ((chain9 w m [m.xid, 1, 0, 0, 0, m.accept]).alloc (.cells (intsV [m.xid, 0, 2, 100003, 3, m.proc, 1, 16, m.cred.client, m.cred.seq, m.cred.uid, m.cred.gid, 0, 0]).toArray 3))
      rw [← HN.out] at HW ⊢
      generalize ((chain9 w m [m.xid, 1, 0, 0, 0, m.accept]).alloc (.cells (intsV m.nums).toArray 3)) = W0 at *
      clear HN
      generalize hl6 : m.nums = l at *
      have HL := Lib.hid hl6
      clear hl6
      go_loopw [40] (fun i wr => ∃ (k : Nat) (sv' : Value), k ≤ 14 ∧ i = .int .i64 k ∧ MovedTo (w.heap.size + 1) (.slice none 0 0) sv' (nums4 (l.take k)) W0 wr ∧ Blk wr (w.heap.size + 1 + 1 + 1) 3 (intsV l) ∧ Blk wr w.heap.size 81 m.vals) (fun i _ => 14 - (intOf i).toNat)
      case atStart => exact ⟨0, _, by omega, rfl, ⟨HW.out.1, fun _ h => .inl h, Touch.refl _ _⟩, HW.out.2.1, HW.out.2.2.1⟩
      case round =>
        obtain ⟨k, sv', hk, rfl, ⟨hW3, hr3, hT3⟩, hI3, hM3⟩ := hrel
        have HR3 := Lib.hid hr3
        have HT3 := Lib.hid hT3
        clear hr3 hT3
        by_cases hlt : k < 14
        · have hkl : k < l.length := by rw [HLen.out]; exact hlt
          have hc := intsV_get hI3 hkl
          have h32 := in32_get H32.out hkl
          have HS := Lib.hid (nums4_succ hkl)
          have hnl := nums4_len (l.take k)
          have htl : (l.take k).length ≤ k := List.length_take_le _ _
          obtain ⟨n, hn⟩ := Int.eq_ofNat_of_zero_le h32.1
          rw [hn] at hc h32
          have HNN := Lib.hid hn
          clear hn
          go_wp2_with fail
          refine (wU32_any _ sv' _ n _ hW3 (by omega) (by omega)).mono ?_
          rintro e w4 ⟨rfl, sv4, hM4⟩
          have hI4 := hW3.keeps hI3 (by decide) (by decide) hM4.2.2
          have hMs4 := hW3.keeps hM3 (by decide) (by decide) hM4.2.2
          have HM4 := Lib.hid (MovedTo.next HR3.out HT3.out hM4)
          clear hM4 hI3 hM3 hc hW3 hnl
          go_wp2
          go_roundw
          case rel => exact ⟨k + 1, sv4, by omega, by go_num, by rw [HS.out, HNN.out]; exact HM4.out, hI4, hMs4⟩
          case measure => simp [intOf]; omega
        · obtain rfl : k = 14 := by omega
          have hnl := nums4_len (l.take 14)
          have htl : (l.take 14).length ≤ 14 := List.length_take_le _ _
          have hMc := hM3.cell
          have hsz := bs_size m.body
          have hlt := hM3.lt
          go_wp2_with fail
          refine (wFixed_any _ sv' _ m.body _ hW3 (by omega) (by omega)).mono ?_
          rintro e w5 ⟨rfl, sv5, hM5⟩
          have HM5 := Lib.hid (MovedTo.next HR3.out HT3.out hM5)
          clear hM5 hI3 hM3 hMc hW3
          go_wp2_with fail
          refine (wText_any _ sv5 _ _ HM5.out.1).mono ?_
          rintro e w6 ⟨rfl, rfl⟩
          go_wp2
          go_ret
          refine ⟨ret_string (by unfold Message.bytes; rw [HL.out, List.take_of_length_le (by rw [HLen.out]; omega)]), HW.out.2.2.2.trans (Moved.below (B := w.heap.size) ⟨sv5, HM5.out⟩ (by omega) (by simp [Value.ownBlock]) HW.out.2.2.2.size)⟩
    · have HW := Lib.hid (chain9_two w m [m.xid, 1, 0, 1, 0, m.accept] m.nums)
      rw [HN.out] at HW
      go_enter Tryz.func129, Tryz.ntmps129
      go_wp2
      change Code.wp _ _ _ _ ((chain9 w m [m.xid, 1, 0, 1, 0, m.accept]).alloc (.cells (intsV [m.xid, 0, 2, 100003, 3, m.proc, 1, 16, m.cred.client, m.cred.seq, m.cred.uid, m.cred.gid, 0, 0]).toArray 3))
      rw [← HN.out] at HW ⊢
      generalize ((chain9 w m [m.xid, 1, 0, 1, 0, m.accept]).alloc (.cells (intsV m.nums).toArray 3)) = W0 at *
      clear HN
      generalize hl6 : m.nums = l at *
      have HL := Lib.hid hl6
      clear hl6
      go_loopw [40] (fun i wr => ∃ (k : Nat) (sv' : Value), k ≤ 14 ∧ i = .int .i64 k ∧ MovedTo (w.heap.size + 1) (.slice none 0 0) sv' (nums4 (l.take k)) W0 wr ∧ Blk wr (w.heap.size + 1 + 1 + 1) 3 (intsV l) ∧ Blk wr w.heap.size 81 m.vals) (fun i _ => 14 - (intOf i).toNat)
      case atStart => exact ⟨0, _, by omega, rfl, ⟨HW.out.1, fun _ h => .inl h, Touch.refl _ _⟩, HW.out.2.1, HW.out.2.2.1⟩
      case round =>
        obtain ⟨k, sv', hk, rfl, ⟨hW3, hr3, hT3⟩, hI3, hM3⟩ := hrel
        have HR3 := Lib.hid hr3
        have HT3 := Lib.hid hT3
        clear hr3 hT3
        by_cases hlt : k < 14
        · have hkl : k < l.length := by rw [HLen.out]; exact hlt
          have hc := intsV_get hI3 hkl
          have h32 := in32_get H32.out hkl
          have HS := Lib.hid (nums4_succ hkl)
          have hnl := nums4_len (l.take k)
          have htl : (l.take k).length ≤ k := List.length_take_le _ _
          obtain ⟨n, hn⟩ := Int.eq_ofNat_of_zero_le h32.1
          rw [hn] at hc h32
          have HNN := Lib.hid hn
          clear hn
          go_wp2_with fail
          refine (wU32_any _ sv' _ n _ hW3 (by omega) (by omega)).mono ?_
          rintro e w4 ⟨rfl, sv4, hM4⟩
          have hI4 := hW3.keeps hI3 (by decide) (by decide) hM4.2.2
          have hMs4 := hW3.keeps hM3 (by decide) (by decide) hM4.2.2
          have HM4 := Lib.hid (MovedTo.next HR3.out HT3.out hM4)
          clear hM4 hI3 hM3 hc hW3 hnl
          go_wp2
          go_roundw
          case rel => exact ⟨k + 1, sv4, by omega, by go_num, by rw [HS.out, HNN.out]; exact HM4.out, hI4, hMs4⟩
          case measure => simp [intOf]; omega
        · obtain rfl : k = 14 := by omega
          have hnl := nums4_len (l.take 14)
          have htl : (l.take 14).length ≤ 14 := List.length_take_le _ _
          have hMc := hM3.cell
          have hsz := bs_size m.body
          have hlt := hM3.lt
          go_wp2_with fail
          refine (wFixed_any _ sv' _ m.body _ hW3 (by omega) (by omega)).mono ?_
          rintro e w5 ⟨rfl, sv5, hM5⟩
          have HM5 := Lib.hid (MovedTo.next HR3.out HT3.out hM5)
          clear hM5 hI3 hM3 hMc hW3
          go_wp2_with fail
          refine (wText_any _ sv5 _ _ HM5.out.1).mono ?_
          rintro e w6 ⟨rfl, rfl⟩
          go_wp2
          go_ret
          refine ⟨ret_string (by unfold Message.bytes; rw [HL.out, List.take_of_length_le (by rw [HLen.out]; omega)]), HW.out.2.2.2.trans (Moved.below (B := w.heap.size) ⟨sv5, HM5.out⟩ (by omega) (by simp [Value.ownBlock]) HW.out.2.2.2.size)⟩
  · cases hg : m.again
    · have HN := Lib.hid (show m.nums = [m.xid, 1, 0, 0, 0, m.accept] by simp [Message.nums, ha, hg])
      have HLen := Lib.hid (show m.nums.length = 6 by simp [Message.nums, ha])
      have HW := Lib.hid (chain9_one w m m.nums)
      rw [HN.out] at HW
      go_enter Tryz.func129, Tryz.ntmps129
      go_wp2
      change Code.wp _ _ _ _ (chain9 w m [m.xid, 1, 0, 0, 0, m.accept])
      rw [← HN.out] at HW ⊢
      generalize chain9 w m m.nums = W0 at *
      clear HN
      generalize hl6 : m.nums = l at *
      have HL := Lib.hid hl6
      clear hl6
      go_loopw [40] (fun i wr => ∃ (k : Nat) (sv' : Value), k ≤ 6 ∧ i = .int .i64 k ∧ MovedTo (w.heap.size + 1) (.slice none 0 0) sv' (nums4 (l.take k)) W0 wr ∧ Blk wr (w.heap.size + 1 + 1) 3 (intsV l) ∧ Blk wr w.heap.size 81 m.vals) (fun i _ => 6 - (intOf i).toNat)
      case atStart => exact ⟨0, _, by omega, rfl, ⟨HW.out.1, fun _ h => .inl h, Touch.refl _ _⟩, HW.out.2.1, HW.out.2.2.1⟩
      case round =>
        obtain ⟨k, sv', hk, rfl, ⟨hW3, hr3, hT3⟩, hI3, hM3⟩ := hrel
        have HR3 := Lib.hid hr3
        have HT3 := Lib.hid hT3
        clear hr3 hT3
        by_cases hlt : k < 6
        · have hkl : k < l.length := by rw [HLen.out]; exact hlt
          have hc := intsV_get hI3 hkl
          have h32 := in32_get H32.out hkl
          have HS := Lib.hid (nums4_succ hkl)
          have hnl := nums4_len (l.take k)
          have htl : (l.take k).length ≤ k := List.length_take_le _ _
          obtain ⟨n, hn⟩ := Int.eq_ofNat_of_zero_le h32.1
          rw [hn] at hc h32
          have HNN := Lib.hid hn
          clear hn
          go_wp2_with fail
          refine (wU32_any _ sv' _ n _ hW3 (by omega) (by omega)).mono ?_
          rintro e w4 ⟨rfl, sv4, hM4⟩
          have hI4 := hW3.keeps hI3 (by decide) (by decide) hM4.2.2
          have hMs4 := hW3.keeps hM3 (by decide) (by decide) hM4.2.2
          have HM4 := Lib.hid (MovedTo.next HR3.out HT3.out hM4)
          clear hM4 hI3 hM3 hc hW3 hnl
          go_wp2
          go_roundw
          case rel => exact ⟨k + 1, sv4, by omega, by go_num, by rw [HS.out, HNN.out]; exact HM4.out, hI4, hMs4⟩
          case measure => simp [intOf]; omega
        · obtain rfl : k = 6 := by omega
          have hnl := nums4_len (l.take 6)
          have htl : (l.take 6).length ≤ 6 := List.length_take_le _ _
          have hMc := hM3.cell
          have hsz := bs_size m.body
          have hlt := hM3.lt
          go_wp2_with fail
          refine (wFixed_any _ sv' _ m.body _ hW3 (by omega) (by omega)).mono ?_
          rintro e w5 ⟨rfl, sv5, hM5⟩
          have HM5 := Lib.hid (MovedTo.next HR3.out HT3.out hM5)
          clear hM5 hI3 hM3 hMc hW3
          go_wp2_with fail
          refine (wText_any _ sv5 _ _ HM5.out.1).mono ?_
          rintro e w6 ⟨rfl, rfl⟩
          go_wp2
          go_ret
          refine ⟨ret_string (by unfold Message.bytes; rw [HL.out, List.take_of_length_le (by rw [HLen.out]; omega)]), HW.out.2.2.2.trans (Moved.below (B := w.heap.size) ⟨sv5, HM5.out⟩ (by omega) (by simp [Value.ownBlock]) HW.out.2.2.2.size)⟩
    · have HN := Lib.hid (show m.nums = [m.xid, 1, 0, 1, 0, m.accept] by simp [Message.nums, ha, hg])
      have HLen := Lib.hid (show m.nums.length = 6 by simp [Message.nums, ha])
      have HW := Lib.hid (chain9_one w m m.nums)
      rw [HN.out] at HW
      go_enter Tryz.func129, Tryz.ntmps129
      go_wp2
      change Code.wp _ _ _ _ (chain9 w m [m.xid, 1, 0, 1, 0, m.accept])
      rw [← HN.out] at HW ⊢
      generalize chain9 w m m.nums = W0 at *
      clear HN
      generalize hl6 : m.nums = l at *
      have HL := Lib.hid hl6
      clear hl6
      go_loopw [40] (fun i wr => ∃ (k : Nat) (sv' : Value), k ≤ 6 ∧ i = .int .i64 k ∧ MovedTo (w.heap.size + 1) (.slice none 0 0) sv' (nums4 (l.take k)) W0 wr ∧ Blk wr (w.heap.size + 1 + 1) 3 (intsV l) ∧ Blk wr w.heap.size 81 m.vals) (fun i _ => 6 - (intOf i).toNat)
      case atStart => exact ⟨0, _, by omega, rfl, ⟨HW.out.1, fun _ h => .inl h, Touch.refl _ _⟩, HW.out.2.1, HW.out.2.2.1⟩
      case round =>
        obtain ⟨k, sv', hk, rfl, ⟨hW3, hr3, hT3⟩, hI3, hM3⟩ := hrel
        have HR3 := Lib.hid hr3
        have HT3 := Lib.hid hT3
        clear hr3 hT3
        by_cases hlt : k < 6
        · have hkl : k < l.length := by rw [HLen.out]; exact hlt
          have hc := intsV_get hI3 hkl
          have h32 := in32_get H32.out hkl
          have HS := Lib.hid (nums4_succ hkl)
          have hnl := nums4_len (l.take k)
          have htl : (l.take k).length ≤ k := List.length_take_le _ _
          obtain ⟨n, hn⟩ := Int.eq_ofNat_of_zero_le h32.1
          rw [hn] at hc h32
          have HNN := Lib.hid hn
          clear hn
          go_wp2_with fail
          refine (wU32_any _ sv' _ n _ hW3 (by omega) (by omega)).mono ?_
          rintro e w4 ⟨rfl, sv4, hM4⟩
          have hI4 := hW3.keeps hI3 (by decide) (by decide) hM4.2.2
          have hMs4 := hW3.keeps hM3 (by decide) (by decide) hM4.2.2
          have HM4 := Lib.hid (MovedTo.next HR3.out HT3.out hM4)
          clear hM4 hI3 hM3 hc hW3 hnl
          go_wp2
          go_roundw
          case rel => exact ⟨k + 1, sv4, by omega, by go_num, by rw [HS.out, HNN.out]; exact HM4.out, hI4, hMs4⟩
          case measure => simp [intOf]; omega
        · obtain rfl : k = 6 := by omega
          have hnl := nums4_len (l.take 6)
          have htl : (l.take 6).length ≤ 6 := List.length_take_le _ _
          have hMc := hM3.cell
          have hsz := bs_size m.body
          have hlt := hM3.lt
          go_wp2_with fail
          refine (wFixed_any _ sv' _ m.body _ hW3 (by omega) (by omega)).mono ?_
          rintro e w5 ⟨rfl, sv5, hM5⟩
          have HM5 := Lib.hid (MovedTo.next HR3.out HT3.out hM5)
          clear hM5 hI3 hM3 hMc hW3
          go_wp2_with fail
          refine (wText_any _ sv5 _ _ HM5.out.1).mono ?_
          rintro e w6 ⟨rfl, rfl⟩
          go_wp2
          go_ret
          refine ⟨ret_string (by unfold Message.bytes; rw [HL.out, List.take_of_length_le (by rw [HLen.out]; omega)]), HW.out.2.2.2.trans (Moved.below (B := w.heap.size) ⟨sv5, HM5.out⟩ (by omega) (by simp [Value.ownBlock]) HW.out.2.2.2.size)⟩
end Go.Proofs.YtfjflkmhhbhceaaGreatDoor


/-
  Layer 9, walks: a message is put, refused, answered; the law RpcAnswers. No condition.
-/
namespace Go.Proofs.YtfjflkmhhbhceaaGreatDoor
open Go.RowKit
attribute [local go_sem ↓] Go.wp_at_zero Go.wp_at_succ
attribute [local go_sem] rowAt_ptr rowOf_drew rowOf_drewN rowOf_alloc_past rowOf_new
attribute [local go_sem ↓] eqCred eqCred0 ldCred ldMessage

attribute [local go_sem] guardCred Message.at0 Message.lat0 Message.at1 Message.lat1 Message.at2 Message.lat2 Message.at3 Message.lat3 Message.at4 Message.lat4 Message.at5 Message.lat5 Message.at6 Message.lat6 Message.at7 Message.lat7 Message.at8 Message.lat8 Message.at9 Message.lat9 Message.sub0_10 Message.lsub0_10 Message.sub4_4 Message.lsub4_4 Message.len Cred.at0 Cred.lat0 Cred.at1 Cred.lat1 Cred.at2 Cred.lat2 Cred.at3 Cred.lat3 Cred.sub0_4 Cred.lsub0_4 Cred.len

def bad14 (b : Bool) : Int := if b then 14 else 0
def Message.putV (m : Message) : Value := if m.bad then .tuple #[.string (bs []), .int .i64 14] else .tuple #[.string (bs m.bytes), .int .i64 0]

set_option maxHeartbeats 1600000 in
theorem check9_any (m : Message) (w : World) (hl : m.body.length ≤ maxLen) : Calls Tryz.prog 128 #[.agg m.vals.toArray] w fun e w' => e = .returned (.int .i64 (bad14 m.bad)) ∧ Below w.heap.size w w' := by
  unfold maxLen at hl
  have hB0 : Below w.heap.size w (w.alloc (.cells m.vals.toArray 81)) := (Below.refl _ _).alloc (Nat.le_refl _) _
  have hz : w.heap.size < (w.alloc (.cells m.vals.toArray 81)).heap.size := by simp
  have hsz := bs_size m.body
  have hsz2 := bs_size m.bytes
  go_enter Tryz.func128, Tryz.ntmps128
  go_wp2_with fail
  refine (may9_any m _ (by omega)).mono ?_
  rintro e w1 ⟨rfl, hb1⟩
  have hs1 := Stb.of hb1
  have hB1 := below_then hB0 hb1
  clear hb1
  cases hm : m.may
  · have HS := Lib.hid (show m.bad = true by simp [Message.bad, hm])
    clear hm
    go_wp2
    go_ret
    exact ⟨ret_int (by rw [HS.out]; rfl), hB1⟩
  · have HM := Lib.hid hm
    clear hm
    by_cases h2 : 2048 < m.body.length
    · have HS := Lib.hid (show m.bad = true by simp [Message.bad, h2])
      go_wp2
      go_ret
      exact ⟨ret_int (by rw [HS.out]; rfl), hB1⟩
    · have HS := Lib.hid (show m.bad = decide (2048 < m.bytes.length) by simp [Message.bad, HM.out, h2])
      have hz1 : w.heap.size < w1.heap.size := Nat.lt_of_lt_of_le hz hs1.below.size
      have hbl : m.bytes.length ≤ 3000 := by
        have := nums4_len m.nums
        have hn : m.nums.length ≤ 14 := by unfold Message.nums; split <;> simp
        have hp := padn_lt m.body.length
        simp only [Message.bytes, List.length_append, filled_len]
        omega
      go_wp2_with fail
      refine (laid9_any m _ HM.out (by omega)).mono ?_
      rintro e w2 ⟨rfl, hb2⟩
      have hB2 := below_then hB1 hb2
      clear hb2
      go_wp2
      all_goals
        go_ret
        refine ⟨ret_int ?_, hB2⟩
        rw [HS.out]
        go_light
        grind [bad14]

set_option maxHeartbeats 1600000 in
theorem put9_any (m : Message) (w : World) (hl : m.body.length ≤ maxLen) : Calls Tryz.prog 87 #[.agg m.vals.toArray] w fun e w' => e = .returned m.putV ∧ Below w.heap.size w w' := by
  have hB0 : Below w.heap.size w (w.alloc (.cells m.vals.toArray 81)) := (Below.refl _ _).alloc (Nat.le_refl _) _
  have hz : w.heap.size < (w.alloc (.cells m.vals.toArray 81)).heap.size := by simp
  go_enter Tryz.func87, Tryz.ntmps87
  go_wp2_with fail
  refine (check9_any m _ hl).mono ?_
  rintro e w1 ⟨rfl, hb1⟩
  have hs1 := Stb.of hb1
  have hB1 := below_then hB0 hb1
  clear hb1
  cases hm : m.bad
  · simp only [bad14, Bool.false_eq_true, if_false]
    have hm' := hm
    simp only [Message.bad, Bool.or_eq_false_iff, Bool.not_eq_false', decide_eq_false_iff_not] at hm'
    have HM := Lib.hid hm'
    have HH := Lib.hid hm
    clear hm hm'
    have hz1 : w.heap.size < w1.heap.size := Nat.lt_of_lt_of_le hz hs1.below.size
    go_wp2_with fail
    refine (laid9_any m _ HM.out.1 (by have := HM.out.2.1; omega)).mono ?_
    rintro e w2 ⟨rfl, hb2⟩
    have hB2 := below_then hB1 hb2
    go_wp2
    go_ret2
    exact ⟨by simp [Message.putV, HH.out], hB2⟩
  · simp only [bad14, if_true]
    have HH := Lib.hid hm
    clear hm
    go_wp2
    go_ret2
    exact ⟨by simp [Message.putV, HH.out], hB1⟩

def Message.refuse (m : Message) (a : Int) : Message := ⟨m.xid, true, false, 0, cred0, a, []⟩
def Message.reply (m : Message) (b : List UInt8) : Message := ⟨m.xid, true, false, 0, cred0, 0, b⟩

theorem guardMessage : Tryz.prog.eqGuardType Tryz.prog.depth 81 = false := by kernel_rfl
def leafsMsg : List Leaf := [.i .i64, .b, .b, .i .i64, .i .i64, .i .i64, .i .i64, .i .i64, .i .i64, .s]
theorem leafsMessage : leafs Tryz.prog 8 81 = some leafsMsg := by kernel_rfl
theorem fitsMessage (a : Message) : fits leafsMsg a.vals = true := by rfl
theorem eqRefuse (m : Message) (a : Int) (w : World) : (binOp .eql 81 (.agg (m.refuse a).vals.toArray) (.agg #[.int .i64 m.xid, .bool true, .bool false, .int .i64 0, .int .i64 0, .int .i64 0, .int .i64 0, .int .i64 0, .int .i64 a, .string ⟨#[]⟩])).run Tryz.prog w = .ok (.bool true) w :=
  eql_same leafsMessage (by kernel_rfl) w _ (m.refuse a).vals (fitsMessage _) rfl
theorem eqReply (m : Message) (b : List UInt8) (w : World) : (binOp .eql 81 (.agg (m.reply b).vals.toArray) (.agg #[.int .i64 m.xid, .bool true, .bool false, .int .i64 0, .int .i64 0, .int .i64 0, .int .i64 0, .int .i64 0, .int .i64 0, .string (bs b)])).run Tryz.prog w = .ok (.bool true) w :=
  eql_same leafsMessage (by kernel_rfl) w _ (m.reply b).vals (fitsMessage _) rfl
attribute [local go_sem ↓] eqRefuse eqReply

attribute [local go_sem] guardMessage

end Go.Proofs.YtfjflkmhhbhceaaGreatDoor


/-
  Layer 9, walks: the program's reader of numbers, which gives up by a panic: next, must, rest. Condition: texts of Go's length.
-/
namespace Go.Proofs.YtfjflkmhhbhceaaGreatDoor
open Go.RowKit
attribute [local go_sem ↓] Go.wp_at_zero Go.wp_at_succ
attribute [local go_sem] rowAt_ptr rowOf_drew rowOf_drewN rowOf_alloc_past rowOf_new

/-- what the program panics with when something is missing -/
def missV : List PanicEntry := [{ v := .iface 165 (.agg #[.int .i64 14]), recovered := false }]
/-- the number at the beginning of a text -/
def wd (s : List UInt8) : Nat := beVal (s.take 4)
theorem rU32_yes {s : List UInt8} (h : 4 ≤ s.length) : rU32 ⟨s, 0⟩ = (wd s, ⟨s.drop 4, 0⟩) := rNum_ok h
theorem rU32_no {s : List UInt8} (h : s.length < 4) : rU32 ⟨s, 0⟩ = (0, Rs.fail 10) := rNum_short h

/-- what holds of every world that a region comes through that draws its order and reads by reader g -/
abbrev StR (g : Nat) (w W : World) : Prop := (∀ b o, b < w.heap.size → b ≠ g → W.cell? ⟨b, o, none⟩ = w.cell? ⟨b, o, none⟩) ∧ (∀ b o n, b < w.heap.size → b ≠ g → rowOf W b o n = rowOf w b o n) ∧ Touch (fun k => k = g) w W
theorem StR.of {g : Nat} {w W : World} (h : Touch (fun k => k = g) w W) : StR g w W := ⟨fun _ _ hb hn => h.cell hb hn, fun _ _ _ hb hn => h.row hb hn _ _, h⟩
theorem StR.start {g : Nat} {w : World} : StR g w w.drew := StR.of (Touch.refl _ _).drew
theorem StR.call {g : Nat} {w W W' : World} (h : StR g w W) (hb : Touch (fun k => k = g) W W') : StR g w W' := StR.of (h.2.2.then_ hb)
theorem StR.alloc {g : Nat} {w W : World} (h : StR g w W) (o : Obj) : StR g w (W.alloc o) := StR.of (h.2.2.alloc o)
theorem next_yes (g : Nat) (s : List UInt8) (w : World) (hR : Rd w g ⟨s, 0⟩) (h : 4 ≤ s.length) (hl : s.length ≤ 9223372036854775807) :
    Calls Tryz.prog 95 #[.agg #[.pointer (some ⟨g, 0, none⟩)]] w fun e w' => e = .returned (.int .i64 (wd s)) ∧ Reads g ⟨s.drop 4, 0⟩ w w' := by
  have hB : Below w.heap.size w (w.alloc (.cells #[.pointer (some ⟨g, 0, none⟩)] 170)) := (Below.refl _ _).alloc (Nat.le_refl _) _
  have K := rU32_any g ⟨s, 0⟩ (w.alloc (.cells #[.pointer (some ⟨g, 0, none⟩)] 170)) (hR.stays hB) hl
  rw [rU32_yes h] at K
  have HB := Lib.hid hB
  have K := Lib.hid K
  have hlt := hR.lt
  clear hR hB
  go_enter Tryz.func95, Tryz.ntmps95
  go_wp2_with fail
  refine K.out.mono ?_
  rintro e w1 ⟨rfl, hQ⟩
  have hc1 : w1.cell? ⟨w.heap.size, 0, none⟩ = some (.pointer (some ⟨g, 0, none⟩)) := (hQ.2.cell (p := ⟨w.heap.size, 0, none⟩) (by simp) (by simp only; omega)).trans (by simp [go_sem])
  have HQ := Lib.hid hQ
  clear hQ
  go_wp2_with fail
  refine (rErr_any g ⟨s.drop 4, 0⟩ _ HQ.out.1).mono ?_
  rintro e w2 ⟨rfl, rfl⟩
  go_wp2
  go_ret
  exact ⟨rfl, Reads.behind HB.out HQ.out⟩
theorem next_no (g : Nat) (s : List UInt8) (w : World) (hR : Rd w g ⟨s, 0⟩) (h : s.length < 4) (hl : s.length ≤ 9223372036854775807) :
    Calls Tryz.prog 95 #[.agg #[.pointer (some ⟨g, 0, none⟩)]] w fun e w' => e = .panicked missV ∧ Touch (fun k => k = g) w w' := by
  have hB : Below w.heap.size w (w.alloc (.cells #[.pointer (some ⟨g, 0, none⟩)] 170)) := (Below.refl _ _).alloc (Nat.le_refl _) _
  have K := rU32_any g ⟨s, 0⟩ (w.alloc (.cells #[.pointer (some ⟨g, 0, none⟩)] 170)) (hR.stays hB) hl
  rw [rU32_no h] at K
  have HB := Lib.hid hB
  have K := Lib.hid K
  have hlt := hR.lt
  clear hR hB
  go_enter Tryz.func95, Tryz.ntmps95
  go_wp2_with fail
  refine K.out.mono ?_
  rintro e w1 ⟨rfl, hQ⟩
  have hc1 : w1.cell? ⟨w.heap.size, 0, none⟩ = some (.pointer (some ⟨g, 0, none⟩)) := (hQ.2.cell (p := ⟨w.heap.size, 0, none⟩) (by simp) (by simp only; omega)).trans (by simp [go_sem])
  have HQ := Lib.hid hQ
  clear hQ
  go_wp2_with fail
  refine (rErr_any g (Rs.fail 10) _ HQ.out.1).mono ?_
  rintro e w2 ⟨rfl, rfl⟩
  simp only [Rs.fail]
  go_wp2
  exact ⟨rfl, rfl, (Reads.behind HB.out HQ.out).2⟩

theorem must_any (b : Bool) (w : World) : Calls Tryz.prog 134 #[.bool b] w fun e w' => (if b then e = .returned (.tuple #[]) else e = .panicked missV) ∧ w = w' := by
  cases b
  · go_enter Tryz.func134, Tryz.ntmps134
    go_wp2
    exact ⟨rfl, rfl, rfl⟩
  · go_enter Tryz.func134, Tryz.ntmps134
    go_wp2
    go_end0
    exact ⟨rfl, rfl⟩

theorem rFixed_all {s : List UInt8} (h : s.length % 4 = 0) : rFixed (s.length : Int) ⟨s, 0⟩ = (s, ⟨[], 0⟩) := by
  have hp : padn s.length = 0 := by unfold padn; omega
  have h0 : ¬ (s.length : Int) < 0 := by omega
  simp [rFixed, rPadded, hp, h0]
theorem rest_any (g : Nat) (s : List UInt8) (w : World) (hR : Rd w g ⟨s, 0⟩) (h : s.length % 4 = 0) (hl : s.length ≤ 9223372036854775807) :
    Calls Tryz.prog 138 #[.agg #[.pointer (some ⟨g, 0, none⟩)]] w fun e w' => e = .returned (.string (bs s)) ∧ Touch (fun k => k = g) w w' := by
  have hB : Below w.heap.size w (w.alloc (.cells #[.pointer (some ⟨g, 0, none⟩)] 170)) := (Below.refl _ _).alloc (Nat.le_refl _) _
  have K0 := rLeft_any g ⟨s, 0⟩ (w.alloc (.cells #[.pointer (some ⟨g, 0, none⟩)] 170)).drew (hR.stays hB.drew)
  have K := rFixed_any g (s.length : Int) ⟨s, 0⟩ (w.alloc (.cells #[.pointer (some ⟨g, 0, none⟩)] 170)).drew (hR.stays hB.drew) (by omega) hl
  rw [rFixed_all h] at K
  have HB := Lib.hid hB.drew
  have K0 := Lib.hid K0
  have K := Lib.hid K
  have hlt0 := hR.lt
  have hne : ¬ w.heap.size = g := by omega
  clear hR hB
  go_enter Tryz.func138, Tryz.ntmps138
  have hlt : g < (w.alloc (.cells #[.pointer (some ⟨g, 0, none⟩)] 170)).heap.size := by simp; omega
  go_wp2_with fail
  go_region_held3 (fun W => StR g (w.alloc (.cells #[.pointer (some ⟨g, 0, none⟩)] 170)) W) (first | exact StR.start | assumption | exact StR.call StR.start hQ.2) (first
    | (go_at_call 137; refine K0.out.mono ?_; rintro e w1 ⟨rfl, rfl⟩)
    | (go_at_call 170; refine K.out.mono ?_; rintro e w2 ⟨rfl, hQ⟩))
  all_goals
    have HQ := Lib.hid hQ
    clear hQ
    go_wp2
    go_ret
    exact ⟨rfl, (Reads.behind HB.out HQ.out).2⟩
end Go.Proofs.YtfjflkmhhbhceaaGreatDoor
