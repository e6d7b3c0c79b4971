/-
  Layer 7, walks: the field of a letter is laid (written by wip/tools/genlaid7.py). Conditions: a writer and a call at blocks of their own; the field may be.
-/
import Derived.Test.YtfjflkmhhbhceaaGreatDoorK27
import Derived.Test.YtfjflkmhhbhceaaGreatDoorK18
import Derived.Test.YtfjflkmhhbhceaaGreatDoorK15
import Derived.Test.YtfjflkmhhbhceaaGreatDoorK26
import Derived.Test.YtfjflkmhhbhceaaGreatDoorK12
namespace Go.Proofs.YtfjflkmhhbhceaaGreatDoor
open Go.RowKit
attribute [local go_sem ↓] Go.wp_at_zero Go.wp_at_succ
attribute [local go_sem] rowAt_ptr rowOf_drew rowOf_drewN rowOf_alloc_past rowOf_new
attribute [local go_sem ↓] ldSet ldOpt ldCall

attribute [local go_sem] Call.at0 Call.lat0 Call.at1 Call.lat1 Call.at2 Call.lat2 Call.at3 Call.lat3 Call.at4 Call.lat4 Call.at5 Call.lat5 Call.at6 Call.lat6 Call.at7 Call.lat7 Call.at8 Call.lat8 Call.at9 Call.lat9 Call.at10 Call.lat10 Call.at11 Call.lat11 Call.at12 Call.lat12 Call.at13 Call.lat13 Call.at14 Call.lat14 Call.at15 Call.lat15 Call.at16 Call.lat16 Call.at17 Call.lat17 Call.at18 Call.lat18 Call.at19 Call.lat19 Call.at20 Call.lat20 Call.at21 Call.lat21 Call.at22 Call.lat22 Call.at23 Call.lat23 Call.sub0_24 Call.lsub0_24 Call.sub9_10 Call.lsub9_10 Call.sub9_2 Call.lsub9_2 Call.sub11_2 Call.lsub11_2 Call.sub13_2 Call.lsub13_2 Call.sub15_2 Call.lsub15_2 Call.sub17_2 Call.lsub17_2 Call.sub19_2 Call.lsub19_2 Call.len Sett.at0 Sett.lat0 Sett.at1 Sett.lat1 Sett.at2 Sett.lat2 Sett.at3 Sett.lat3 Sett.at4 Sett.lat4 Sett.at5 Sett.lat5 Sett.at6 Sett.lat6 Sett.at7 Sett.lat7 Sett.at8 Sett.lat8 Sett.at9 Sett.lat9 Sett.sub0_10 Sett.lsub0_10 Sett.sub0_2 Sett.lsub0_2 Sett.sub2_2 Sett.lsub2_2 Sett.sub4_2 Sett.lsub4_2 Sett.sub6_2 Sett.lsub6_2 Sett.sub8_2 Sett.lsub8_2 Sett.len Opt.at0 Opt.lat0 Opt.at1 Opt.lat1 Opt.sub0_2 Opt.lsub0_2 Opt.len

/-- the bytes of a letter's field -/
def cBytes (x : Call) (c : Nat) : List UInt8 :=
  if c = 102 then opq x.fh else
  if c = 70 then opq x.fh2 else
  if c = 110 then opq x.name else
  if c = 78 then opq x.name2 else
  if c = 116 then opq x.text else
  if c = 100 then opq x.data else
  if c = 111 then num x.offset.toNat 8 else
  if c = 107 then num x.cookie.toNat 8 else
  if c = 118 then num x.verf.toNat 8 else
  if c = 99 then num x.count.toNat 4 else
  if c = 104 then num x.how.toNat 4 else
  if c = 115 then x.set.bytes else optB x.guard.is x.guard.n
theorem claid_f (g b : Nat) (sv : Value) (l : List UInt8) (x : Call) (w : World) (hW : Wr w g sv l) (hB : Blk w b 36 x.vals) (hm : cMay x 102 = true) (hl : l.length ≤ 900000000000) :
    Calls Tryz.prog 126 #[ptr g, .pointer (some ⟨b, 0, none⟩), .int .i32 102] w (Wrote g sv (l ++ cBytes x 102) (.tuple #[]) w) := by
  have hc := hB.cell
  have hm2 : x.fh.length ≤ 64 := by simpa [cMay] using hm
  have HS := Lib.hid (show cBytes x 102 = opq x.fh by simp [cBytes])
  go_enter Tryz.func126, Tryz.ntmps126
  go_wp2_with fail
  refine (wOpaque_any g sv l x.fh _ hW (by omega) (by omega)).mono ?_
  rintro e w1 ⟨rfl, hM⟩
  rw [← HS.out] at hM
  have HM := Lib.hid hM
  clear hM
  go_wp2
  go_end0
  exact ⟨rfl, HM.out⟩
theorem claid_f2 (g b : Nat) (sv : Value) (l : List UInt8) (x : Call) (w : World) (hW : Wr w g sv l) (hB : Blk w b 36 x.vals) (hm : cMay x 70 = true) (hl : l.length ≤ 900000000000) :
    Calls Tryz.prog 126 #[ptr g, .pointer (some ⟨b, 0, none⟩), .int .i32 70] w (Wrote g sv (l ++ cBytes x 70) (.tuple #[]) w) := by
  have hc := hB.cell
  have hm2 : x.fh2.length ≤ 64 := by simpa [cMay] using hm
  have HS := Lib.hid (show cBytes x 70 = opq x.fh2 by simp [cBytes])
  go_enter Tryz.func126, Tryz.ntmps126
  go_wp2_with fail
  refine (wOpaque_any g sv l x.fh2 _ hW (by omega) (by omega)).mono ?_
  rintro e w1 ⟨rfl, hM⟩
  rw [← HS.out] at hM
  have HM := Lib.hid hM
  clear hM
  go_wp2
  go_end0
  exact ⟨rfl, HM.out⟩
theorem claid_n (g b : Nat) (sv : Value) (l : List UInt8) (x : Call) (w : World) (hW : Wr w g sv l) (hB : Blk w b 36 x.vals) (hm : cMay x 110 = true) (hl : l.length ≤ 900000000000) :
    Calls Tryz.prog 126 #[ptr g, .pointer (some ⟨b, 0, none⟩), .int .i32 110] w (Wrote g sv (l ++ cBytes x 110) (.tuple #[]) w) := by
  have hc := hB.cell
  have hm2 : x.name.length ≤ 255 := by simpa [cMay] using hm
  have HS := Lib.hid (show cBytes x 110 = opq x.name by simp [cBytes])
  go_enter Tryz.func126, Tryz.ntmps126
  go_wp2_with fail
  refine (wOpaque_any g sv l x.name _ hW (by omega) (by omega)).mono ?_
  rintro e w1 ⟨rfl, hM⟩
  rw [← HS.out] at hM
  have HM := Lib.hid hM
  clear hM
  go_wp2
  go_end0
  exact ⟨rfl, HM.out⟩
theorem claid_n2 (g b : Nat) (sv : Value) (l : List UInt8) (x : Call) (w : World) (hW : Wr w g sv l) (hB : Blk w b 36 x.vals) (hm : cMay x 78 = true) (hl : l.length ≤ 900000000000) :
    Calls Tryz.prog 126 #[ptr g, .pointer (some ⟨b, 0, none⟩), .int .i32 78] w (Wrote g sv (l ++ cBytes x 78) (.tuple #[]) w) := by
  have hc := hB.cell
  have hm2 : x.name2.length ≤ 255 := by simpa [cMay] using hm
  have HS := Lib.hid (show cBytes x 78 = opq x.name2 by simp [cBytes])
  go_enter Tryz.func126, Tryz.ntmps126
  go_wp2_with fail
  refine (wOpaque_any g sv l x.name2 _ hW (by omega) (by omega)).mono ?_
  rintro e w1 ⟨rfl, hM⟩
  rw [← HS.out] at hM
  have HM := Lib.hid hM
  clear hM
  go_wp2
  go_end0
  exact ⟨rfl, HM.out⟩
theorem claid_t (g b : Nat) (sv : Value) (l : List UInt8) (x : Call) (w : World) (hW : Wr w g sv l) (hB : Blk w b 36 x.vals) (hm : cMay x 116 = true) (hl : l.length ≤ 900000000000) :
    Calls Tryz.prog 126 #[ptr g, .pointer (some ⟨b, 0, none⟩), .int .i32 116] w (Wrote g sv (l ++ cBytes x 116) (.tuple #[]) w) := by
  have hc := hB.cell
  have hm2 : x.text.length ≤ 255 := by simpa [cMay] using hm
  have HS := Lib.hid (show cBytes x 116 = opq x.text by simp [cBytes])
  go_enter Tryz.func126, Tryz.ntmps126
  go_wp2_with fail
  refine (wOpaque_any g sv l x.text _ hW (by omega) (by omega)).mono ?_
  rintro e w1 ⟨rfl, hM⟩
  rw [← HS.out] at hM
  have HM := Lib.hid hM
  clear hM
  go_wp2
  go_end0
  exact ⟨rfl, HM.out⟩
theorem claid_d (g b : Nat) (sv : Value) (l : List UInt8) (x : Call) (w : World) (hW : Wr w g sv l) (hB : Blk w b 36 x.vals) (hm : cMay x 100 = true) (hl : l.length ≤ 900000000000) :
    Calls Tryz.prog 126 #[ptr g, .pointer (some ⟨b, 0, none⟩), .int .i32 100] w (Wrote g sv (l ++ cBytes x 100) (.tuple #[]) w) := by
  have hc := hB.cell
  have hm2 : x.data.length ≤ 256 := by simpa [cMay] using hm
  have HS := Lib.hid (show cBytes x 100 = opq x.data by simp [cBytes])
  go_enter Tryz.func126, Tryz.ntmps126
  go_wp2_with fail
  refine (wOpaque_any g sv l x.data _ hW (by omega) (by omega)).mono ?_
  rintro e w1 ⟨rfl, hM⟩
  rw [← HS.out] at hM
  have HM := Lib.hid hM
  clear hM
  go_wp2
  go_end0
  exact ⟨rfl, HM.out⟩
theorem claid_o (g b : Nat) (sv : Value) (l : List UInt8) (x : Call) (w : World) (hW : Wr w g sv l) (hB : Blk w b 36 x.vals) (hm : cMay x 111 = true) (hi : x.offset ≤ 9223372036854775807) (hl : l.length ≤ 900000000000) :
    Calls Tryz.prog 126 #[ptr g, .pointer (some ⟨b, 0, none⟩), .int .i32 111] w (Wrote g sv (l ++ cBytes x 111) (.tuple #[]) w) := by
  have hc := hB.cell
  have hm2 : 0 ≤ x.offset := by simpa [cMay] using hm
  obtain ⟨n, hn⟩ := Int.eq_ofNat_of_zero_le (show 0 ≤ x.offset by omega)
  have HN := Lib.hid hn
  have HS := Lib.hid (show cBytes x 111 = num n 8 by simp [cBytes, hn])
  have hb : (n : Int) ≤ 9223372036854775807 := by omega
  clear hn hm hm2 hi
  go_enter Tryz.func126, Tryz.ntmps126
  go_wp2_with fail
  rw [HN.out]
  refine (wU64_any g sv l n _ hW (by omega) (by omega)).mono ?_
  rintro e w1 ⟨rfl, hM⟩
  rw [← HS.out] at hM
  have HM := Lib.hid hM
  clear hM
  go_wp2
  go_end0
  exact ⟨rfl, HM.out⟩
theorem claid_k (g b : Nat) (sv : Value) (l : List UInt8) (x : Call) (w : World) (hW : Wr w g sv l) (hB : Blk w b 36 x.vals) (hm : cMay x 107 = true) (hi : x.cookie ≤ 9223372036854775807) (hl : l.length ≤ 900000000000) :
    Calls Tryz.prog 126 #[ptr g, .pointer (some ⟨b, 0, none⟩), .int .i32 107] w (Wrote g sv (l ++ cBytes x 107) (.tuple #[]) w) := by
  have hc := hB.cell
  have hm2 : 0 ≤ x.cookie := by simpa [cMay] using hm
  obtain ⟨n, hn⟩ := Int.eq_ofNat_of_zero_le (show 0 ≤ x.cookie by omega)
  have HN := Lib.hid hn
  have HS := Lib.hid (show cBytes x 107 = num n 8 by simp [cBytes, hn])
  have hb : (n : Int) ≤ 9223372036854775807 := by omega
  clear hn hm hm2 hi
  go_enter Tryz.func126, Tryz.ntmps126
  go_wp2_with fail
  rw [HN.out]
  refine (wU64_any g sv l n _ hW (by omega) (by omega)).mono ?_
  rintro e w1 ⟨rfl, hM⟩
  rw [← HS.out] at hM
  have HM := Lib.hid hM
  clear hM
  go_wp2
  go_end0
  exact ⟨rfl, HM.out⟩
theorem claid_v (g b : Nat) (sv : Value) (l : List UInt8) (x : Call) (w : World) (hW : Wr w g sv l) (hB : Blk w b 36 x.vals) (hm : cMay x 118 = true) (hi : x.verf ≤ 9223372036854775807) (hl : l.length ≤ 900000000000) :
    Calls Tryz.prog 126 #[ptr g, .pointer (some ⟨b, 0, none⟩), .int .i32 118] w (Wrote g sv (l ++ cBytes x 118) (.tuple #[]) w) := by
  have hc := hB.cell
  have hm2 : 0 ≤ x.verf := by simpa [cMay] using hm
  obtain ⟨n, hn⟩ := Int.eq_ofNat_of_zero_le (show 0 ≤ x.verf by omega)
  have HN := Lib.hid hn
  have HS := Lib.hid (show cBytes x 118 = num n 8 by simp [cBytes, hn])
  have hb : (n : Int) ≤ 9223372036854775807 := by omega
  clear hn hm hm2 hi
  go_enter Tryz.func126, Tryz.ntmps126
  go_wp2_with fail
  rw [HN.out]
  refine (wU64_any g sv l n _ hW (by omega) (by omega)).mono ?_
  rintro e w1 ⟨rfl, hM⟩
  rw [← HS.out] at hM
  have HM := Lib.hid hM
  clear hM
  go_wp2
  go_end0
  exact ⟨rfl, HM.out⟩
theorem claid_c (g b : Nat) (sv : Value) (l : List UInt8) (x : Call) (w : World) (hW : Wr w g sv l) (hB : Blk w b 36 x.vals) (hm : cMay x 99 = true) (hl : l.length ≤ 900000000000) :
    Calls Tryz.prog 126 #[ptr g, .pointer (some ⟨b, 0, none⟩), .int .i32 99] w (Wrote g sv (l ++ cBytes x 99) (.tuple #[]) w) := by
  have hc := hB.cell
  have hm2 : 0 ≤ x.count ∧ x.count ≤ 4294967295 := by simpa [cMay] using hm
  obtain ⟨n, hn⟩ := Int.eq_ofNat_of_zero_le (show 0 ≤ x.count by omega)
  have HN := Lib.hid hn
  have HS := Lib.hid (show cBytes x 99 = num n 4 by simp [cBytes, hn])
  have hb : (n : Int) ≤ 4294967295 := by omega
  clear hn hm hm2
  go_enter Tryz.func126, Tryz.ntmps126
  go_wp2_with fail
  rw [HN.out]
  refine (wU32_any g sv l n _ hW (by omega) (by omega)).mono ?_
  rintro e w1 ⟨rfl, hM⟩
  rw [← HS.out] at hM
  have HM := Lib.hid hM
  clear hM
  go_wp2
  go_end0
  exact ⟨rfl, HM.out⟩
theorem claid_h (g b : Nat) (sv : Value) (l : List UInt8) (x : Call) (w : World) (hW : Wr w g sv l) (hB : Blk w b 36 x.vals) (hm : cMay x 104 = true) (hl : l.length ≤ 900000000000) :
    Calls Tryz.prog 126 #[ptr g, .pointer (some ⟨b, 0, none⟩), .int .i32 104] w (Wrote g sv (l ++ cBytes x 104) (.tuple #[]) w) := by
  have hc := hB.cell
  have hm2 : 0 ≤ x.how ∧ x.how ≤ 4294967295 := by simpa [cMay] using hm
  obtain ⟨n, hn⟩ := Int.eq_ofNat_of_zero_le (show 0 ≤ x.how by omega)
  have HN := Lib.hid hn
  have HS := Lib.hid (show cBytes x 104 = num n 4 by simp [cBytes, hn])
  have hb : (n : Int) ≤ 4294967295 := by omega
  clear hn hm hm2
  go_enter Tryz.func126, Tryz.ntmps126
  go_wp2_with fail
  rw [HN.out]
  refine (wU32_any g sv l n _ hW (by omega) (by omega)).mono ?_
  rintro e w1 ⟨rfl, hM⟩
  rw [← HS.out] at hM
  have HM := Lib.hid hM
  clear hM
  go_wp2
  go_end0
  exact ⟨rfl, HM.out⟩
end Go.Proofs.YtfjflkmhhbhceaaGreatDoor

/-
  Layer 7, walks: what is to be set, and the guard, are laid; every letter's field. Conditions: a writer and a call at blocks of their own; the field may be.
-/
namespace Go.Proofs.YtfjflkmhhbhceaaGreatDoor
open Go.RowKit
attribute [local go_sem ↓] Go.wp_at_zero Go.wp_at_succ
attribute [local go_sem] rowAt_ptr rowOf_drew rowOf_drewN rowOf_alloc_past rowOf_new
attribute [local go_sem ↓] ldSet ldOpt ldCall

attribute [local go_sem] Call.at0 Call.lat0 Call.at1 Call.lat1 Call.at2 Call.lat2 Call.at3 Call.lat3 Call.at4 Call.lat4 Call.at5 Call.lat5 Call.at6 Call.lat6 Call.at7 Call.lat7 Call.at8 Call.lat8 Call.at9 Call.lat9 Call.at10 Call.lat10 Call.at11 Call.lat11 Call.at12 Call.lat12 Call.at13 Call.lat13 Call.at14 Call.lat14 Call.at15 Call.lat15 Call.at16 Call.lat16 Call.at17 Call.lat17 Call.at18 Call.lat18 Call.at19 Call.lat19 Call.at20 Call.lat20 Call.at21 Call.lat21 Call.at22 Call.lat22 Call.at23 Call.lat23 Call.sub0_24 Call.lsub0_24 Call.sub9_10 Call.lsub9_10 Call.sub9_2 Call.lsub9_2 Call.sub11_2 Call.lsub11_2 Call.sub13_2 Call.lsub13_2 Call.sub15_2 Call.lsub15_2 Call.sub17_2 Call.lsub17_2 Call.sub19_2 Call.lsub19_2 Call.len Sett.at0 Sett.lat0 Sett.at1 Sett.lat1 Sett.at2 Sett.lat2 Sett.at3 Sett.lat3 Sett.at4 Sett.lat4 Sett.at5 Sett.lat5 Sett.at6 Sett.lat6 Sett.at7 Sett.lat7 Sett.at8 Sett.lat8 Sett.at9 Sett.lat9 Sett.sub0_10 Sett.lsub0_10 Sett.sub0_2 Sett.lsub0_2 Sett.sub2_2 Sett.lsub2_2 Sett.sub4_2 Sett.lsub4_2 Sett.sub6_2 Sett.lsub6_2 Sett.sub8_2 Sett.lsub8_2 Sett.len Opt.at0 Opt.lat0 Opt.at1 Opt.lat1 Opt.sub0_2 Opt.lsub0_2 Opt.len

theorem claid_s (g b : Nat) (sv : Value) (l : List UInt8) (x : Call) (w : World) (hW : Wr w g sv l) (hB : Blk w b 36 x.vals) (hm : cMay x 115 = true) (hg : x.set.good) (hl : l.length ≤ 900000000000) :
    Calls Tryz.prog 126 #[ptr g, .pointer (some ⟨b, 0, none⟩), .int .i32 115] w (Wrote g sv (l ++ cBytes x 115) (.tuple #[]) w) := by
  have hr : rowOf w b 9 10 = some x.set.vals.toArray := hB.row 9 10 (by simp [Call.len])
  have hm2 : x.set.ok = true := by simpa [cMay] using hm
  have HS := Lib.hid (show cBytes x 115 = x.set.bytes by simp [cBytes])
  go_enter Tryz.func126, Tryz.ntmps126
  go_wp2_with fail
  refine (putSet_any g sv l x.set _ hW hm2 hg hl).mono ?_
  rintro e w1 ⟨rfl, hM⟩
  rw [← HS.out] at hM
  have HM := Lib.hid hM
  clear hM
  go_wp2
  go_end0
  exact ⟨rfl, HM.out⟩
theorem claid_g (g b : Nat) (sv : Value) (l : List UInt8) (x : Call) (w : World) (hW : Wr w g sv l) (hB : Blk w b 36 x.vals) (hm : cMay x 103 = true) (hg : x.guard.n ≤ 9223372036854775807) (hl : l.length ≤ 900000000000) :
    Calls Tryz.prog 126 #[ptr g, .pointer (some ⟨b, 0, none⟩), .int .i32 103] w (Wrote g sv (l ++ cBytes x 103) (.tuple #[]) w) := by
  have hr : rowOf w b 19 2 = some x.guard.vals.toArray := hB.row 19 2 (by simp [Call.len])
  have hm2 : 0 ≤ x.guard.n := by simp [cMay] at hm; exact hm.1
  have HS := Lib.hid (show cBytes x 103 = optB x.guard.is x.guard.n by simp [cBytes])
  go_enter Tryz.func126, Tryz.ntmps126
  go_wp2_with fail
  refine (wOpt_any g sv l x.guard.is x.guard.n _ hW (fun _ => hm2) hg (by omega)).mono ?_
  rintro e w1 ⟨rfl, hM⟩
  rw [← HS.out] at hM
  have HM := Lib.hid hM
  clear hM
  go_wp2
  go_end0
  exact ⟨rfl, HM.out⟩
theorem claid_any (g b : Nat) (sv : Value) (l : List UInt8) (x : Call) (c : Nat) (w : World) (hc : cLetter c) (hW : Wr w g sv l) (hB : Blk w b 36 x.vals) (hm : cMay x c = true) (hgo : x.offset ≤ 9223372036854775807) (hgk : x.cookie ≤ 9223372036854775807) (hgv : x.verf ≤ 9223372036854775807) (hgs : x.set.good) (hgg : x.guard.n ≤ 9223372036854775807) (hl : l.length ≤ 900000000000) :
    Calls Tryz.prog 126 #[ptr g, .pointer (some ⟨b, 0, none⟩), .int .i32 c] w (Wrote g sv (l ++ cBytes x c) (.tuple #[]) w) := by
  rcases hc with rfl | rfl | rfl | rfl | rfl | rfl | rfl | rfl | rfl | rfl | rfl | rfl | rfl
  · exact claid_f g b sv l x w hW hB hm hl
  · exact claid_f2 g b sv l x w hW hB hm hl
  · exact claid_n g b sv l x w hW hB hm hl
  · exact claid_n2 g b sv l x w hW hB hm hl
  · exact claid_t g b sv l x w hW hB hm hl
  · exact claid_d g b sv l x w hW hB hm hl
  · exact claid_o g b sv l x w hW hB hm hgo hl
  · exact claid_k g b sv l x w hW hB hm hgk hl
  · exact claid_v g b sv l x w hW hB hm hgv hl
  · exact claid_c g b sv l x w hW hB hm hl
  · exact claid_h g b sv l x w hW hB hm hl
  · exact claid_s g b sv l x w hW hB hm hgs hl
  · exact claid_g g b sv l x w hW hB hm hgg hl
end Go.Proofs.YtfjflkmhhbhceaaGreatDoor


/-
  Layer 7, walks: the closure that lays a letter's field. Conditions as told.
-/
namespace Go.Proofs.YtfjflkmhhbhceaaGreatDoor
open Go.RowKit
attribute [local go_sem ↓] Go.wp_at_zero Go.wp_at_succ
attribute [local go_sem] rowAt_ptr rowOf_drew rowOf_drewN rowOf_alloc_past rowOf_new
attribute [local go_sem ↓] ldSet ldOpt ldCall

attribute [local go_sem] Call.at0 Call.lat0 Call.at1 Call.lat1 Call.at2 Call.lat2 Call.at3 Call.lat3 Call.at4 Call.lat4 Call.at5 Call.lat5 Call.at6 Call.lat6 Call.at7 Call.lat7 Call.at8 Call.lat8 Call.at9 Call.lat9 Call.at10 Call.lat10 Call.at11 Call.lat11 Call.at12 Call.lat12 Call.at13 Call.lat13 Call.at14 Call.lat14 Call.at15 Call.lat15 Call.at16 Call.lat16 Call.at17 Call.lat17 Call.at18 Call.lat18 Call.at19 Call.lat19 Call.at20 Call.lat20 Call.at21 Call.lat21 Call.at22 Call.lat22 Call.at23 Call.lat23 Call.sub0_24 Call.lsub0_24 Call.sub9_10 Call.lsub9_10 Call.sub9_2 Call.lsub9_2 Call.sub11_2 Call.lsub11_2 Call.sub13_2 Call.lsub13_2 Call.sub15_2 Call.lsub15_2 Call.sub17_2 Call.lsub17_2 Call.sub19_2 Call.lsub19_2 Call.len Sett.at0 Sett.lat0 Sett.at1 Sett.lat1 Sett.at2 Sett.lat2 Sett.at3 Sett.lat3 Sett.at4 Sett.lat4 Sett.at5 Sett.lat5 Sett.at6 Sett.lat6 Sett.at7 Sett.lat7 Sett.at8 Sett.lat8 Sett.at9 Sett.lat9 Sett.sub0_10 Sett.lsub0_10 Sett.sub0_2 Sett.lsub0_2 Sett.sub2_2 Sett.lsub2_2 Sett.sub4_2 Sett.lsub4_2 Sett.sub6_2 Sett.lsub6_2 Sett.sub8_2 Sett.lsub8_2 Sett.len Opt.at0 Opt.lat0 Opt.at1 Opt.lat1 Opt.sub0_2 Opt.lsub0_2 Opt.len

theorem row_ne_itr {w : World} {base : Nat} {e : TypeId} {size n b pos : Nat} {v : Value} {xs : List Value} {l : List UInt8} (h : w.ownsRow base e size v n xs) (hI : Itr w b l pos) : v.ownBlock ≠ some b := by
  intro hb
  rcases h.2 with ⟨rfl, _⟩ | ⟨g, cap, cur, rfl, _, hg, _⟩
  · simp [Value.ownBlock] at hb
  · simp [Value.ownBlock] at hb
    subst hb
    unfold Itr at hI
    rw [hg] at hI
    cases hI
theorem Wr.foot_ne_itr {w : World} {g b pos : Nat} {sv : Value} {m l : List UInt8} (h : Wr w g sv m) (hI : Itr w b l pos) : ¬ foot g sv b := by
  intro hf
  rcases hf with rfl | hf
  · exact h.1.ne_itr hI rfl
  · exact row_ne_itr h.2 hI hf
/-- the bytes of the first k letters' fields -/
def cLaid (x : Call) (l : List UInt8) (k : Nat) : List UInt8 := (l.take k).flatMap fun c => cBytes x c.toNat
theorem cLaid_succ (x : Call) (l : List UInt8) (k : Nat) (hk : k < l.length) : cLaid x l (k + 1) = cLaid x l k ++ cBytes x l[k].toNat := by
  unfold cLaid
  rw [List.take_add_one, List.getElem?_eq_getElem hk, List.flatMap_append]
  simp
/-- what holds while a call is laid -/
structure Laying (w0 : World) (g h b : Nat) (x : Call) (l : List UInt8) (k : Nat) (W : World) : Prop where
  wr : ∃ sv, Wr W g sv (cLaid x l k) ∧ ∀ i, sv.ownBlock = some i → w0.heap.size ≤ i
  H : Blk W h 193 [ptr g]
  X : Blk W b 36 x.vals
  B : Below w0.heap.size w0 W

theorem put1_any (w0 : World) (g h b : Nat) (hg0 : w0.heap.size ≤ g) (x : Call) (l : List UInt8) (k : Nat) (hk : k < l.length) (hl : cLetter l[k].toNat) (hm : cMay x l[k].toNat = true) (hgo : x.offset ≤ 9223372036854775807) (hgk : x.cookie ≤ 9223372036854775807) (hgv : x.verf ≤ 9223372036854775807) (hgs : x.set.good) (hgg : x.guard.n ≤ 9223372036854775807) (hlen : (cLaid x l k).length ≤ 900000000000) (W : World) (hS : Laying w0 g h b x l k W) :
    Calls Tryz.prog 125 #[.int .i32 l[k].toNat, .pointer (some ⟨h, 0, none⟩), .pointer (some ⟨b, 0, none⟩)] W fun e W' => e = .returned (.bool true) ∧ Laying w0 g h b x l (k + 1) W' ∧ ∀ b l pos, Itr W b l pos → Itr W' b l pos := by
  have HT := Lib.hid (cLaid_succ x l k hk)
  generalize l[k].toNat = c at *
  obtain ⟨⟨sv, hW, hrow⟩, hH, hX, hB⟩ := hS
  have hc := hH.cell
  go_enter Tryz.func125, Tryz.ntmps125
  go_wp2_with fail
  refine (claid_any g b sv _ x c _ hl hW hX hm hgo hgk hgv hgs hgg hlen).mono ?_
  rintro e w1 ⟨rfl, sv1, hW1, hr1, hT1⟩
  rw [← HT.out] at hW1
  have HH : Laying w0 g h b x l (k + 1) w1 := ⟨⟨sv1, hW1, fun i hi => by
      rcases hr1 i hi with h | h
      · exact hrow i h
      · exact Nat.le_trans hB.size h⟩, hW.keeps hH (by decide) (by decide) hT1, hW.keeps hX (by decide) (by decide) hT1,
    hB.trans (hT1.below (fun i _ hf => by
      rcases hf with rfl | hf
      · exact hg0
      · exact hrow i hf) hB.size)⟩
  have HI : ∀ b l pos, Itr W b l pos → Itr w1 b l pos := fun b l pos h => h.touch hT1 (hW.foot_ne_itr h)
  clear hW1 hr1 hT1 hH hX hB hW hrow
  go_wp2
  go_ret
  exact ⟨rfl, HH, HI⟩
end Go.Proofs.YtfjflkmhhbhceaaGreatDoor


/-
  Layer 7, walks: a call's bytes. Conditions: the call's numbers are machine numbers.
-/
namespace Go.Proofs.YtfjflkmhhbhceaaGreatDoor
open Go.RowKit
attribute [local go_sem ↓] Go.wp_at_zero Go.wp_at_succ
attribute [local go_sem] rowAt_ptr rowOf_drew rowOf_drewN rowOf_alloc_past rowOf_new
attribute [local go_sem ↓] ldSet ldOpt ldCall

attribute [local go_sem] Call.at0 Call.lat0 Call.at1 Call.lat1 Call.at2 Call.lat2 Call.at3 Call.lat3 Call.at4 Call.lat4 Call.at5 Call.lat5 Call.at6 Call.lat6 Call.at7 Call.lat7 Call.at8 Call.lat8 Call.at9 Call.lat9 Call.at10 Call.lat10 Call.at11 Call.lat11 Call.at12 Call.lat12 Call.at13 Call.lat13 Call.at14 Call.lat14 Call.at15 Call.lat15 Call.at16 Call.lat16 Call.at17 Call.lat17 Call.at18 Call.lat18 Call.at19 Call.lat19 Call.at20 Call.lat20 Call.at21 Call.lat21 Call.at22 Call.lat22 Call.at23 Call.lat23 Call.sub0_24 Call.lsub0_24 Call.sub9_10 Call.lsub9_10 Call.sub9_2 Call.lsub9_2 Call.sub11_2 Call.lsub11_2 Call.sub13_2 Call.lsub13_2 Call.sub15_2 Call.lsub15_2 Call.sub17_2 Call.lsub17_2 Call.sub19_2 Call.lsub19_2 Call.len Sett.at0 Sett.lat0 Sett.at1 Sett.lat1 Sett.at2 Sett.lat2 Sett.at3 Sett.lat3 Sett.at4 Sett.lat4 Sett.at5 Sett.lat5 Sett.at6 Sett.lat6 Sett.at7 Sett.lat7 Sett.at8 Sett.lat8 Sett.at9 Sett.lat9 Sett.sub0_10 Sett.lsub0_10 Sett.sub0_2 Sett.lsub0_2 Sett.sub2_2 Sett.lsub2_2 Sett.sub4_2 Sett.lsub4_2 Sett.sub6_2 Sett.lsub6_2 Sett.sub8_2 Sett.lsub8_2 Sett.len Opt.at0 Opt.lat0 Opt.at1 Opt.lat1 Opt.sub0_2 Opt.lsub0_2 Opt.len

theorem cCheck_fine {x : Call} (h : cCheck x = 0) : cMayAll x (cFields x.proc) = true := by
  unfold cCheck at h
  split at h
  · cases h
  · split at h
    · next h2 => exact h2.1
    · cases h
/-- a call's bytes, or why there are none -/
def cPut (x : Call) : List UInt8 × Int := if cCheck x = 0 then (cLaid x (cFields x.proc) (cFields x.proc).length, 0) else ([], cCheck x)
theorem cFields_short (p : Int) : (cFields p).length ≤ 5 := by
  unfold cFields
  split
  · simp
  · rcases Nat.lt_or_ge p.toNat lettersC.length with h | h
    · have he : lettersC.getD p.toNat [] = lettersC[p.toNat] := by simp [List.getD, List.getElem?_eq_getElem h]
      rw [he]
      have : ∀ s ∈ lettersC, s.length ≤ 5 := by decide
      exact this _ (List.getElem_mem h)
    · simp [List.getD, List.getElem?_eq_none h]
theorem opq_len (l : List UInt8) : (opq l).length ≤ l.length + 8 := by
  have := padn_lt l.length
  simp only [opq, List.length_append, num_len, filled_len]
  omega
theorem optB_len (b : Bool) (n : Int) : (optB b n).length ≤ 12 := by
  cases b <;> simp [optB, truth, num_len]
theorem optBytes_len (o : Opt) : o.bytes.length ≤ 12 := optB_len o.is o.n
theorem cBytes_len (x : Call) (c : Nat) (hm : cMay x c = true) (hl : cLetter c) : (cBytes x c).length ≤ 600 := by
  have hs : x.set.bytes.length ≤ 60 := by
    have h1 := optBytes_len x.set.mode
    have h2 := optBytes_len x.set.uid
    have h3 := optBytes_len x.set.gid
    have h4 := optBytes_len x.set.size
    have h5 := optBytes_len x.set.time
    simp only [Sett.bytes, List.length_append]
    omega
  have ho := optB_len x.guard.is x.guard.n
  have o1 := opq_len x.fh
  have o2 := opq_len x.fh2
  have o3 := opq_len x.name
  have o4 := opq_len x.name2
  have o5 := opq_len x.text
  have o6 := opq_len x.data
  rcases hl with rfl | rfl | rfl | rfl | rfl | rfl | rfl | rfl | rfl | rfl | rfl | rfl | rfl
  all_goals
    simp [cMay] at hm
    simp [cBytes, num_len]
    try omega
theorem cLaid_len (x : Call) (l : List UInt8) (hm : cMayAll x l = true) (hl : ∀ k (hk : k < l.length), cLetter l[k].toNat) (k : Nat) (hk : k ≤ l.length) : (cLaid x l k).length ≤ 600 * k := by
  induction k with
  | zero => simp [cLaid]
  | succ k ih =>
    have h1 := ih (by omega)
    have hlt : k < l.length := by omega
    rw [cMayAll, List.all_eq_true] at hm
    have h2 := cBytes_len x l[k].toNat (hm _ (List.getElem_mem hlt)) (hl k hlt)
    rw [cLaid_succ x l k hlt, List.length_append]
    omega
end Go.Proofs.YtfjflkmhhbhceaaGreatDoor


/-
  Layer 5, walks: what was ahead and behind, and what is to be set, are got. Conditions: a reader at a block of its own; texts are machine texts.
-/
namespace Go.Proofs.YtfjflkmhhbhceaaGreatDoor
open Go.RowKit
attribute [local go_sem ↓] Go.wp_at_zero Go.wp_at_succ
attribute [local go_sem] rowAt_ptr rowOf_drew rowOf_drewN rowOf_alloc_past rowOf_new
attribute [local go_sem ↓] ldAttrR ldOpt ldSet ldPost ldWcc

attribute [local go_sem] Attr.at0 Attr.lat0 Attr.at1 Attr.lat1 Attr.at2 Attr.lat2 Attr.at3 Attr.lat3 Attr.at4 Attr.lat4 Attr.at5 Attr.lat5 Attr.at6 Attr.lat6 Attr.at7 Attr.lat7 Attr.at8 Attr.lat8 Attr.at9 Attr.lat9 Attr.sub0_10 Attr.lsub0_10 Attr.len Opt.at0 Opt.lat0 Opt.at1 Opt.lat1 Opt.sub0_2 Opt.lsub0_2 Opt.len Sett.at0 Sett.lat0 Sett.at1 Sett.lat1 Sett.at2 Sett.lat2 Sett.at3 Sett.lat3 Sett.at4 Sett.lat4 Sett.at5 Sett.lat5 Sett.at6 Sett.lat6 Sett.at7 Sett.lat7 Sett.at8 Sett.lat8 Sett.at9 Sett.lat9 Sett.sub0_10 Sett.lsub0_10 Sett.sub0_2 Sett.lsub0_2 Sett.sub2_2 Sett.lsub2_2 Sett.sub4_2 Sett.lsub4_2 Sett.sub6_2 Sett.lsub6_2 Sett.sub8_2 Sett.lsub8_2 Sett.len Post.at0 Post.lat0 Post.at1 Post.lat1 Post.at2 Post.lat2 Post.at3 Post.lat3 Post.at4 Post.lat4 Post.at5 Post.lat5 Post.at6 Post.lat6 Post.at7 Post.lat7 Post.at8 Post.lat8 Post.at9 Post.lat9 Post.at10 Post.lat10 Post.sub0_11 Post.lsub0_11 Post.sub1_10 Post.lsub1_10 Post.len Wcc.at0 Wcc.lat0 Wcc.at1 Wcc.lat1 Wcc.at2 Wcc.lat2 Wcc.at3 Wcc.lat3 Wcc.at4 Wcc.lat4 Wcc.at5 Wcc.lat5 Wcc.at6 Wcc.lat6 Wcc.at7 Wcc.lat7 Wcc.at8 Wcc.lat8 Wcc.at9 Wcc.lat9 Wcc.at10 Wcc.lat10 Wcc.at11 Wcc.lat11 Wcc.at12 Wcc.lat12 Wcc.sub0_13 Wcc.lsub0_13 Wcc.sub0_2 Wcc.lsub0_2 Wcc.sub2_11 Wcc.lsub2_11 Wcc.sub3_10 Wcc.lsub3_10 Wcc.len optV

theorem setAt_wcc (o : Opt) (p : Post) : setAt (Wcc.vals ⟨o, postZ⟩) 2 p.vals = Wcc.vals ⟨o, p⟩ := rfl
set_option maxHeartbeats 3200000 in
theorem getWcc_any (g : Nat) (r : Rs) (w : World) (hR : Rd w g r) (hl : r.s.length ≤ 9223372036854775807) :
    Calls Tryz.prog 176 #[.pointer (some ⟨g, 0, none⟩)] w (Gave g (rWcc r).2 (gotV (gotR Wcc.ok wccZ (rWcc r)).1.vals (gotR Wcc.ok wccZ (rWcc r)).2) w) := by
  have hb := Blk.new w 47 wccZ.vals
  have hB : Below w.heap.size w (w.alloc (.cells wccZ.vals.toArray 47)) := (Below.refl _ _).alloc (Nat.le_refl _) _
  have hR1 := hR.stays hB
  have hne : w.heap.size ≠ g := Nat.ne_of_gt hR.lt
  have hgl := hR.lt
  have hl2 := rOpt_len hl
  have hg := rWcc_good hl
  clear hR
  go_enter Tryz.func176, Tryz.ntmps176
  go_wp2_with fail
  change Calls _ _ _ (w.alloc (.cells wccZ.vals.toArray 47)) _
  generalize w.alloc (.cells wccZ.vals.toArray 47) = w0 at *
  refine (rOpt_any g r _ hR1 hl).mono ?_
  rintro e w1 ⟨he, hQ⟩
  obtain ⟨x, hx⟩ : ∃ x, x = rOpt r := ⟨_, rfl⟩
  rw [← hx] at he hQ hl2
  have HX := Lib.hid hx
  clear hx
  subst he
  obtain ⟨⟨o1, o2⟩, rr⟩ := x
  simp only at hQ hl2
  have hb1 := (hQ.keeps hb hne).alloc (.cells (Wcc.vals ⟨optOf (o1, o2), postZ⟩).toArray 47)
  have hp1 := Blk.new w1 47 (Wcc.vals ⟨optOf (o1, o2), postZ⟩)
  have hQ1 := (Reads.behind hB hQ).new ((Below.refl _ _).alloc (Nat.le_refl _) (.cells (Wcc.vals ⟨optOf (o1, o2), postZ⟩).toArray 47))
  have hne1 : w1.heap.size ≠ g := by have := hQ.1.lt; omega
  have hlt2 : w.heap.size < w1.heap.size := (hQ.keeps hb hne).lt
  have hne2 : w.heap.size ≠ w1.heap.size := by omega
  have hR2 := hQ1.1
  clear hQ hb
  go_wp2_with fail
  change Calls _ _ _ (w1.alloc (.cells (Wcc.vals ⟨optOf (o1, o2), postZ⟩).toArray 47)) _
  generalize w1.alloc (.cells (Wcc.vals ⟨optOf (o1, o2), postZ⟩).toArray 47) = w2 at *
  refine (posted_any g rr _ hR2 (by omega)).mono ?_
  rintro e w3 ⟨he, hQ3⟩
  obtain ⟨p, hp⟩ : ∃ p, p = rPost rr := ⟨_, rfl⟩
  rw [← hp] at he hQ3
  have HP := Lib.hid hp
  clear hp
  subst he
  obtain ⟨pv, rs⟩ := p
  simp only at hQ3
  have hb3 := hQ3.keeps hb1 hne
  have hp3 := hQ3.keeps hp1 hne1
  have hQ4 := hQ1.trans hQ3
  have hp4 := hp3.sets pv.vals _ 2
  rw [setAt_wcc] at hp4
  have hb4 := Blk.farCells (g := w.heap.size) hne2 pv.vals 2 _ hb3
  have hQ5 : Reads g rs w (w3.setCells w1.heap.size 2 pv.vals) := ⟨hQ4.1.touch (Touch.setCells (F := fun k => k = w1.heap.size) (.inl rfl) _ 2 w3 (Touch.refl _ _)) (fun hh => hne1 hh.symm), Touch.setCells (.inr (by omega)) _ 2 w3 hQ4.2⟩
  have rp : rowOf (w3.setCells w1.heap.size 2 pv.vals) w1.heap.size 0 13 = some (Wcc.vals ⟨optOf (o1, o2), pv⟩).toArray := hp4.row 0 13 (by simp [Wcc.len])
  obtain ⟨w4, hw4⟩ : ∃ w4, w4 = w3.setCells w1.heap.size 2 pv.vals := ⟨_, rfl⟩
  rw [← hw4] at rp hb4 hQ5
  have HW4 := Lib.hid hw4
  clear hQ1 hQ3 hQ4 hp4 hb1 hb3 hp1 hR2 hw4
  go_wp2_with (first | (refine wpList_store_part (by rfl) 45 _ _ (by rfl) w1.heap.size 2 pv.vals _ hp3 (by simp [Post.len, Wcc.len]) (by rfl) (by rfl) (by kernel_rfl) (Post.one _) ?_; rw [← HW4.out]) | fail)
  have hw : rWcc r = (⟨optOf (o1, o2), pv⟩, rs) := by unfold rWcc; rw [← HX.out]; simp only; rw [← HP.out]
  rw [hw] at hg
  refine (gotWcc_any g rs ⟨optOf (o1, o2), pv⟩ _ hQ5.1 hg).mono ?_
  rintro e w5 ⟨he, hb⟩
  have hb5 := hb4.stays hb
  have hQ6 := hQ5.new hb
  obtain ⟨y, hy⟩ : ∃ y, y = gotR Wcc.ok wccZ (⟨optOf (o1, o2), pv⟩, rs) := ⟨_, rfl⟩
  rw [← hy] at he
  have HY := Lib.hid hy
  have HWW := Lib.hid hw
  clear hy hw hb hb4 hQ5 rp
  subst he
  unfold gotV
  obtain ⟨y1, y2⟩ := y
  have HQ := Lib.hid (Reads.lay (cs := y1.vals) hQ6 hb5 rfl hne (Nat.le_refl _))
  clear hQ6
  go_wp2_with (first | (refine wpList_store_whole (by rfl) 47 _ _ (by rfl) w.heap.size y1.vals _ hb5 (by rfl) (by rfl) (by rfl) (by kernel_rfl) (Wcc.one _) ?_) | fail)
  refine ret_cells2 w.heap.size 0 y1.vals (.int .i64 y2) Tryz.results176 Tryz.underlying47 rfl (by kernel_rfl) rfl rfl HQ.out.2.range rfl ?_
  rw [HWW.out, ← HY.out]
  exact ⟨rfl, HQ.out.1⟩

/-- the first k options are read -/
def setOpt (s : Sett) (o : Opt) : Nat → Sett
  | 0 => { s with mode := o }
  | 1 => { s with uid := o }
  | 2 => { s with gid := o }
  | 3 => { s with size := o }
  | _ => { s with time := o }
def settK : Nat → Rs → Sett × Rs
  | 0, r => (settZ, r)
  | k + 1, r => (setOpt (settK k r).1 (optOf (rOpt (settK k r).2).1) k, (rOpt (settK k r).2).2)
def rSett (r : Rs) : Sett × Rs := settK 5 r
theorem settK_step (r : Rs) {k : Nat} (hk : k < 5) : setAt (settK k r).1.vals (2 * k) (optV (rOpt (settK k r).2).1) = (settK (k + 1) r).1.vals ∧ (settK (k + 1) r).2 = (rOpt (settK k r).2).2 := by
  match k, hk with
  | 0, _ | 1, _ | 2, _ | 3, _ | 4, _ => exact ⟨rfl, rfl⟩
theorem settK_len (r : Rs) (k : Nat) (h : r.s.length ≤ 9223372036854775807) : (settK k r).2.s.length ≤ 9223372036854775807 := by
  induction k with
  | zero => exact h
  | succ k ih => exact Nat.le_trans (rOpt_len ih) ih
theorem rSett_good {r : Rs} (h : r.s.length ≤ 9223372036854775807) : (rSett r).1.good :=
  ⟨rOpt_good h, rOpt_good (settK_len r 1 h), rOpt_good (settK_len r 2 h), rOpt_good (settK_len r 3 h), rOpt_good (settK_len r 4 h)⟩

end Go.Proofs.YtfjflkmhhbhceaaGreatDoor


/-
  Layer 7, walks of the document's own: has, text, num, There, Large. No condition but machine texts.
-/
namespace Go.Proofs.YtfjflkmhhbhceaaGreatDoor
open Go.RowKit
attribute [local go_sem ↓] Go.wp_at_zero Go.wp_at_succ
attribute [local go_sem] rowAt_ptr rowOf_drew rowOf_drewN rowOf_alloc_past rowOf_new
attribute [local go_sem] Call.at0 Call.lat0 Call.at1 Call.lat1 Call.at2 Call.lat2 Call.at3 Call.lat3 Call.at4 Call.lat4 Call.at5 Call.lat5 Call.at6 Call.lat6 Call.at7 Call.lat7 Call.at8 Call.lat8 Call.at9 Call.lat9 Call.at10 Call.lat10 Call.at11 Call.lat11 Call.at12 Call.lat12 Call.at13 Call.lat13 Call.at14 Call.lat14 Call.at15 Call.lat15 Call.at16 Call.lat16 Call.at17 Call.lat17 Call.at18 Call.lat18 Call.at19 Call.lat19 Call.at20 Call.lat20 Call.at21 Call.lat21 Call.at22 Call.lat22 Call.at23 Call.lat23 Call.sub0_24 Call.lsub0_24 Call.sub9_10 Call.lsub9_10 Call.sub9_2 Call.lsub9_2 Call.sub11_2 Call.lsub11_2 Call.sub13_2 Call.lsub13_2 Call.sub15_2 Call.lsub15_2 Call.sub17_2 Call.lsub17_2 Call.sub19_2 Call.lsub19_2 Call.len Sett.at0 Sett.lat0 Sett.at1 Sett.lat1 Sett.at2 Sett.lat2 Sett.at3 Sett.lat3 Sett.at4 Sett.lat4 Sett.at5 Sett.lat5 Sett.at6 Sett.lat6 Sett.at7 Sett.lat7 Sett.at8 Sett.lat8 Sett.at9 Sett.lat9 Sett.sub0_10 Sett.lsub0_10 Sett.sub0_2 Sett.lsub0_2 Sett.sub2_2 Sett.lsub2_2 Sett.sub4_2 Sett.lsub4_2 Sett.sub6_2 Sett.lsub6_2 Sett.sub8_2 Sett.lsub8_2 Sett.len Opt.at0 Opt.lat0 Opt.at1 Opt.lat1 Opt.sub0_2 Opt.lsub0_2 Opt.len

set_option maxHeartbeats 800000 in
theorem refHas7_any (l : List UInt8) (c : UInt8) (w : World) (hl : l.length ≤ 1000) : Calls Tryz.prog 167 #[.string (bs l), .int .u8 c.toNat] w fun e w' => e = .returned (.bool (l.contains c)) ∧ w = w' := by
  have hsz := bs_size l
  go_enter Tryz.func167, Tryz.ntmps167
  go_wp2
  go_loopw [5] (fun iv wr => ∃ k : Nat, k ≤ l.length ∧ iv = .int .i64 k ∧ (∀ j (hj : j < l.length), j < k → l[j] ≠ c) ∧ wr = w) (fun iv _ => l.length - (intOf iv).toNat)
  case atStart => exact ⟨0, Nat.zero_le _, rfl, fun _ _ h => absurd h (Nat.not_lt_zero _), rfl⟩
  case round =>
    obtain ⟨k, hk, rfl, hno, rfl⟩ := hrel
    by_cases hlt : k < l.length
    · by_cases he : l[k] = c
      · have HC := Lib.hid (show l.contains c = true by rw [List.contains_iff_mem, ← he]; exact List.getElem_mem hlt)
        have hq : ((((bs l)[k]'(by rw [hsz]; exact hlt)).toNat : Int) == (c.toNat : Int)) = true := by rw [bs_get, he]; simp
        go_wp2
        go_ret
        rw [HC.out]
        exact ⟨rfl, rfl⟩
      · have hq : ((((bs l)[k]'(by rw [hsz]; exact hlt)).toNat : Int) == (c.toNat : Int)) = false := beq_false_of_ne fun h => he (UInt8.toNat_inj.1 (by rw [bs_get] at h; omega))
        have HN := Lib.hid (show ∀ j (hj : j < l.length), j < k + 1 → l[j] ≠ c from fun j hj h => by
          rcases Nat.lt_or_ge j k with h3 | h3
          · exact hno j hj h3
          · obtain rfl : j = k := by omega
            exact he)
        clear hno
        go_wp2
        go_roundw
        case rel => exact ⟨k + 1, by omega, by go_num, HN.out, trivial⟩
        case measure => simp [intOf]; omega
    · obtain rfl : k = l.length := by omega
      have HC := Lib.hid (show l.contains c = false by
        rw [← Bool.not_eq_true, List.contains_iff_mem]
        intro hm
        obtain ⟨j, hj, e⟩ := List.getElem_of_mem hm
        exact hno j hj hj e)
      clear hno
      go_wp2
      go_ret
      rw [HC.out]
      exact ⟨rfl, rfl⟩
theorem refTextIs7_any (is : Bool) (l : List UInt8) (most : Int) (w : World) : Calls Tryz.prog 166 #[.bool is, .string (bs l), .int .i64 most] w fun e w' => e = .returned (.bool (if is then decide ((l.length : Int) ≤ most) else l == [])) ∧ w = w' := by
  have hsz := bs_size l
  cases is
  · by_cases hl : l = []
    · subst hl
      go_enter Tryz.func166, Tryz.ntmps166
      go_wp2
      go_ret
      exact ⟨rfl, rfl⟩
    · have h2 : (l == []) = false := by simpa using hl
      go_enter Tryz.func166, Tryz.ntmps166
      go_wp2
      go_ret
      simp
  · go_enter Tryz.func166, Tryz.ntmps166
    go_wp2
    go_ret
    exact ⟨rfl, rfl⟩
theorem refNum7_any (is : Bool) (n most : Int) (w : World) : Calls Tryz.prog 168 #[.bool is, .int .i64 n, .int .i64 most] w fun e w' => e = .returned (.bool (if is then decide (0 ≤ n) && decide (n ≤ most) else n == 0)) ∧ w = w' := by
  cases is
  all_goals
    go_enter Tryz.func168, Tryz.ntmps168
    go_wp2
    all_goals (go_ret; go_light; exact ⟨ret_bool (by grind), rfl⟩)
theorem refThere_any (p : Int) (w : World) : Calls Tryz.prog 130 #[.int .i64 p] w fun e w' => e = .returned (.bool (cThere p)) ∧ w = w' := by
  go_enter Tryz.func130, Tryz.ntmps130
  go_wp2
  all_goals (go_ret; go_light; exact ⟨ret_bool (by grind [cThere]), rfl⟩)
/-- is a call too large to be looked at -/
def cLarge (x : Call) : Bool := decide (80 < x.fh.length) || decide (80 < x.fh2.length) || decide (300 < x.name.length) || decide (300 < x.name2.length) || decide (300 < x.text.length) || decide (300 < x.data.length)
set_option maxHeartbeats 1600000 in
theorem refLarge7_any (x : Call) (w : World) : Calls Tryz.prog 23 #[.agg x.vals.toArray] w fun e w' => e = .returned (.bool (cLarge x)) ∧ Below w.heap.size w w' := by
  have hb := Blk.new w 36 x.vals
  have hc := hb.cell
  have hB : Below w.heap.size w (w.alloc (.cells x.vals.toArray 36)) := (Below.refl _ _).alloc (Nat.le_refl _) _
  have h1 := bs_size x.fh
  have h2 := bs_size x.fh2
  have h3 := bs_size x.name
  have h4 := bs_size x.name2
  have h5 := bs_size x.text
  have h6 := bs_size x.data
  have HB := Lib.hid hB
  clear hB hb
  go_enter Tryz.func23, Tryz.ntmps23
  go_wp2
  all_goals (go_ret; go_light; exact ⟨ret_bool (by grind [cLarge]), HB.out⟩)
end Go.Proofs.YtfjflkmhhbhceaaGreatDoor


/-
  Layer 7, walks: the field of a letter is taken (written by wip/tools/gentaken.py). Conditions: a reader and a call at blocks of their own; machine texts.
-/
namespace Go.Proofs.YtfjflkmhhbhceaaGreatDoor
open Go.RowKit
attribute [local go_sem ↓] Go.wp_at_zero Go.wp_at_succ
attribute [local go_sem] rowAt_ptr rowOf_drew rowOf_drewN rowOf_alloc_past rowOf_new
attribute [local go_sem ↓] ldSet ldOpt

theorem infoSettM : (Tryz.prog.info? 34).map (fun i => (i.zero, i.size)) = some (some (.agg settZ.vals.toArray), 10) := by kernel_rfl
/-- the field of a letter is taken -/
def cTk (c : Nat) (z : Call) (r : Rs) : Call × Rs :=
  if c = 102 then ({ z with fh := (rOpaque 64 r).1 }, (rOpaque 64 r).2) else
  if c = 70 then ({ z with fh2 := (rOpaque 64 r).1 }, (rOpaque 64 r).2) else
  if c = 110 then ({ z with name := (rOpaque 255 r).1 }, (rOpaque 255 r).2) else
  if c = 78 then ({ z with name2 := (rOpaque 255 r).1 }, (rOpaque 255 r).2) else
  if c = 116 then ({ z with text := (rOpaque 255 r).1 }, (rOpaque 255 r).2) else
  if c = 100 then ({ z with data := (rOpaque 256 r).1 }, (rOpaque 256 r).2) else
  if c = 111 then ({ z with offset := (rU64 r).1 }, (rU64 r).2) else
  if c = 107 then ({ z with cookie := (rU64 r).1 }, (rU64 r).2) else
  if c = 118 then ({ z with verf := (rU64 r).1 }, (rU64 r).2) else
  if c = 99 then ({ z with count := (rU32 r).1 }, (rU32 r).2) else
  if c = 104 then ({ z with how := (rU32 r).1 }, (rU32 r).2) else
  if c = 115 then ({ z with set := (gotR Sett.ok settZ (rSett r)).1 }, (rSett r).2) else
  if c = 103 then ({ z with guard := optOf (rOpt r).1 }, (rOpt r).2) else (z, r)
/-- may it be -/
def cTkOk (c : Nat) (r : Rs) : Bool := if c = 115 then (gotR Sett.ok settZ (rSett r)).2 == 0 else (cTk c callZ r).2.e == 0
structure Took (g b : Nat) (z : Call) (r : Rs) (w w' : World) : Prop where
  R : Rd w' g r
  C : Blk w' b 36 z.vals
  T : Touch (fun k => k = g ∨ k = b) w w'

end Go.Proofs.YtfjflkmhhbhceaaGreatDoor