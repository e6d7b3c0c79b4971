/-
  Layer 7, walks: the field of a letter is laid (written by wip/tools/genlaid7.py). Conditions: a writer and a call at blocks of their own; the field may be.
-/
import Derived.Test.YthfhdighniiodaaDoorC13
import Derived.Test.YthfhdighniiodaaDoorC07
namespace Go.Proofs.YthfhdighniiodaaDoor
open Go.RowKit
attribute [local go_sem ↓] Go.wp_at_zero Go.wp_at_succ
attribute [local go_sem] rowAt_ptr rowOf_drew rowOf_drewN rowOf_alloc_past rowOf_new
attribute [local go_sem ↓] ldSet ldOpt ldCall

attribute [local go_sem] Call.at0 Call.lat0 Call.at1 Call.lat1 Call.at2 Call.lat2 Call.at3 Call.lat3 Call.at4 Call.lat4 Call.at5 Call.lat5 Call.at6 Call.lat6 Call.at7 Call.lat7 Call.at8 Call.lat8 Call.at9 Call.lat9 Call.at10 Call.lat10 Call.at11 Call.lat11 Call.at12 Call.lat12 Call.at13 Call.lat13 Call.at14 Call.lat14 Call.at15 Call.lat15 Call.at16 Call.lat16 Call.at17 Call.lat17 Call.at18 Call.lat18 Call.at19 Call.lat19 Call.at20 Call.lat20 Call.at21 Call.lat21 Call.at22 Call.lat22 Call.at23 Call.lat23 Call.sub0_24 Call.lsub0_24 Call.sub9_10 Call.lsub9_10 Call.sub9_2 Call.lsub9_2 Call.sub11_2 Call.lsub11_2 Call.sub13_2 Call.lsub13_2 Call.sub15_2 Call.lsub15_2 Call.sub17_2 Call.lsub17_2 Call.sub19_2 Call.lsub19_2 Call.len Sett.at0 Sett.lat0 Sett.at1 Sett.lat1 Sett.at2 Sett.lat2 Sett.at3 Sett.lat3 Sett.at4 Sett.lat4 Sett.at5 Sett.lat5 Sett.at6 Sett.lat6 Sett.at7 Sett.lat7 Sett.at8 Sett.lat8 Sett.at9 Sett.lat9 Sett.sub0_10 Sett.lsub0_10 Sett.sub0_2 Sett.lsub0_2 Sett.sub2_2 Sett.lsub2_2 Sett.sub4_2 Sett.lsub4_2 Sett.sub6_2 Sett.lsub6_2 Sett.sub8_2 Sett.lsub8_2 Sett.len Opt.at0 Opt.lat0 Opt.at1 Opt.lat1 Opt.sub0_2 Opt.lsub0_2 Opt.len

/-- the bytes of a letter's field -/
def cBytes (x : Call) (c : Nat) : List UInt8 :=
  if c = 102 then opq x.fh else
  if c = 70 then opq x.fh2 else
  if c = 110 then opq x.name else
  if c = 78 then opq x.name2 else
  if c = 116 then opq x.text else
  if c = 100 then opq x.data else
  if c = 111 then num x.offset.toNat 8 else
  if c = 107 then num x.cookie.toNat 8 else
  if c = 118 then num x.verf.toNat 8 else
  if c = 99 then num x.count.toNat 4 else
  if c = 104 then num x.how.toNat 4 else
  if c = 115 then x.set.bytes else optB x.guard.is x.guard.n
theorem claid_f (g b : Nat) (sv : Value) (l : List UInt8) (x : Call) (w : World) (hW : Wr w g sv l) (hB : Blk w b 57 x.vals) (hm : cMay x 102 = true) (hl : l.length ≤ 900000000000) :
    Calls Tryd.prog 72 #[ptr g, .pointer (some ⟨b, 0, none⟩), .int .i32 102] w (Wrote g sv (l ++ cBytes x 102) (.tuple #[]) w) := by
  have hc := hB.cell
  have hm2 : x.fh.length ≤ 64 := by simpa [cMay] using hm
  have HS := Lib.hid (show cBytes x 102 = opq x.fh by simp [cBytes])
  go_enter Tryd.func72, Tryd.ntmps72
  go_wp2_with fail
  refine (wOpaque_any g sv l x.fh _ hW (by omega) (by omega)).mono ?_
  rintro e w1 ⟨rfl, hM⟩
  rw [← HS.out] at hM
  have HM := Lib.hid hM
  clear hM
  go_wp2
  go_end0
  exact ⟨rfl, HM.out⟩
theorem claid_f2 (g b : Nat) (sv : Value) (l : List UInt8) (x : Call) (w : World) (hW : Wr w g sv l) (hB : Blk w b 57 x.vals) (hm : cMay x 70 = true) (hl : l.length ≤ 900000000000) :
    Calls Tryd.prog 72 #[ptr g, .pointer (some ⟨b, 0, none⟩), .int .i32 70] w (Wrote g sv (l ++ cBytes x 70) (.tuple #[]) w) := by
  have hc := hB.cell
  have hm2 : x.fh2.length ≤ 64 := by simpa [cMay] using hm
  have HS := Lib.hid (show cBytes x 70 = opq x.fh2 by simp [cBytes])
  go_enter Tryd.func72, Tryd.ntmps72
  go_wp2_with fail
  refine (wOpaque_any g sv l x.fh2 _ hW (by omega) (by omega)).mono ?_
  rintro e w1 ⟨rfl, hM⟩
  rw [← HS.out] at hM
  have HM := Lib.hid hM
  clear hM
  go_wp2
  go_end0
  exact ⟨rfl, HM.out⟩
theorem claid_n (g b : Nat) (sv : Value) (l : List UInt8) (x : Call) (w : World) (hW : Wr w g sv l) (hB : Blk w b 57 x.vals) (hm : cMay x 110 = true) (hl : l.length ≤ 900000000000) :
    Calls Tryd.prog 72 #[ptr g, .pointer (some ⟨b, 0, none⟩), .int .i32 110] w (Wrote g sv (l ++ cBytes x 110) (.tuple #[]) w) := by
  have hc := hB.cell
  have hm2 : x.name.length ≤ 255 := by simpa [cMay] using hm
  have HS := Lib.hid (show cBytes x 110 = opq x.name by simp [cBytes])
  go_enter Tryd.func72, Tryd.ntmps72
  go_wp2_with fail
  refine (wOpaque_any g sv l x.name _ hW (by omega) (by omega)).mono ?_
  rintro e w1 ⟨rfl, hM⟩
  rw [← HS.out] at hM
  have HM := Lib.hid hM
  clear hM
  go_wp2
  go_end0
  exact ⟨rfl, HM.out⟩
theorem claid_n2 (g b : Nat) (sv : Value) (l : List UInt8) (x : Call) (w : World) (hW : Wr w g sv l) (hB : Blk w b 57 x.vals) (hm : cMay x 78 = true) (hl : l.length ≤ 900000000000) :
    Calls Tryd.prog 72 #[ptr g, .pointer (some ⟨b, 0, none⟩), .int .i32 78] w (Wrote g sv (l ++ cBytes x 78) (.tuple #[]) w) := by
  have hc := hB.cell
  have hm2 : x.name2.length ≤ 255 := by simpa [cMay] using hm
  have HS := Lib.hid (show cBytes x 78 = opq x.name2 by simp [cBytes])
  go_enter Tryd.func72, Tryd.ntmps72
  go_wp2_with fail
  refine (wOpaque_any g sv l x.name2 _ hW (by omega) (by omega)).mono ?_
  rintro e w1 ⟨rfl, hM⟩
  rw [← HS.out] at hM
  have HM := Lib.hid hM
  clear hM
  go_wp2
  go_end0
  exact ⟨rfl, HM.out⟩
theorem claid_t (g b : Nat) (sv : Value) (l : List UInt8) (x : Call) (w : World) (hW : Wr w g sv l) (hB : Blk w b 57 x.vals) (hm : cMay x 116 = true) (hl : l.length ≤ 900000000000) :
    Calls Tryd.prog 72 #[ptr g, .pointer (some ⟨b, 0, none⟩), .int .i32 116] w (Wrote g sv (l ++ cBytes x 116) (.tuple #[]) w) := by
  have hc := hB.cell
  have hm2 : x.text.length ≤ 255 := by simpa [cMay] using hm
  have HS := Lib.hid (show cBytes x 116 = opq x.text by simp [cBytes])
  go_enter Tryd.func72, Tryd.ntmps72
  go_wp2_with fail
  refine (wOpaque_any g sv l x.text _ hW (by omega) (by omega)).mono ?_
  rintro e w1 ⟨rfl, hM⟩
  rw [← HS.out] at hM
  have HM := Lib.hid hM
  clear hM
  go_wp2
  go_end0
  exact ⟨rfl, HM.out⟩
theorem claid_d (g b : Nat) (sv : Value) (l : List UInt8) (x : Call) (w : World) (hW : Wr w g sv l) (hB : Blk w b 57 x.vals) (hm : cMay x 100 = true) (hl : l.length ≤ 900000000000) :
    Calls Tryd.prog 72 #[ptr g, .pointer (some ⟨b, 0, none⟩), .int .i32 100] w (Wrote g sv (l ++ cBytes x 100) (.tuple #[]) w) := by
  have hc := hB.cell
  have hm2 : x.data.length ≤ 256 := by simpa [cMay] using hm
  have HS := Lib.hid (show cBytes x 100 = opq x.data by simp [cBytes])
  go_enter Tryd.func72, Tryd.ntmps72
  go_wp2_with fail
  refine (wOpaque_any g sv l x.data _ hW (by omega) (by omega)).mono ?_
  rintro e w1 ⟨rfl, hM⟩
  rw [← HS.out] at hM
  have HM := Lib.hid hM
  clear hM
  go_wp2
  go_end0
  exact ⟨rfl, HM.out⟩
theorem claid_o (g b : Nat) (sv : Value) (l : List UInt8) (x : Call) (w : World) (hW : Wr w g sv l) (hB : Blk w b 57 x.vals) (hm : cMay x 111 = true) (hi : x.offset ≤ 9223372036854775807) (hl : l.length ≤ 900000000000) :
    Calls Tryd.prog 72 #[ptr g, .pointer (some ⟨b, 0, none⟩), .int .i32 111] w (Wrote g sv (l ++ cBytes x 111) (.tuple #[]) w) := by
  have hc := hB.cell
  have hm2 : 0 ≤ x.offset := by simpa [cMay] using hm
  obtain ⟨n, hn⟩ := Int.eq_ofNat_of_zero_le (show 0 ≤ x.offset by omega)
  have HN := Lib.hid hn
  have HS := Lib.hid (show cBytes x 111 = num n 8 by simp [cBytes, hn])
  have hb : (n : Int) ≤ 9223372036854775807 := by omega
  clear hn hm hm2 hi
  go_enter Tryd.func72, Tryd.ntmps72
  go_wp2_with fail
  rw [HN.out]
  refine (wU64_any g sv l n _ hW (by omega) (by omega)).mono ?_
  rintro e w1 ⟨rfl, hM⟩
  rw [← HS.out] at hM
  have HM := Lib.hid hM
  clear hM
  go_wp2
  go_end0
  exact ⟨rfl, HM.out⟩
theorem claid_k (g b : Nat) (sv : Value) (l : List UInt8) (x : Call) (w : World) (hW : Wr w g sv l) (hB : Blk w b 57 x.vals) (hm : cMay x 107 = true) (hi : x.cookie ≤ 9223372036854775807) (hl : l.length ≤ 900000000000) :
    Calls Tryd.prog 72 #[ptr g, .pointer (some ⟨b, 0, none⟩), .int .i32 107] w (Wrote g sv (l ++ cBytes x 107) (.tuple #[]) w) := by
  have hc := hB.cell
  have hm2 : 0 ≤ x.cookie := by simpa [cMay] using hm
  obtain ⟨n, hn⟩ := Int.eq_ofNat_of_zero_le (show 0 ≤ x.cookie by omega)
  have HN := Lib.hid hn
  have HS := Lib.hid (show cBytes x 107 = num n 8 by simp [cBytes, hn])
  have hb : (n : Int) ≤ 9223372036854775807 := by omega
  clear hn hm hm2 hi
  go_enter Tryd.func72, Tryd.ntmps72
  go_wp2_with fail
  rw [HN.out]
  refine (wU64_any g sv l n _ hW (by omega) (by omega)).mono ?_
  rintro e w1 ⟨rfl, hM⟩
  rw [← HS.out] at hM
  have HM := Lib.hid hM
  clear hM
  go_wp2
  go_end0
  exact ⟨rfl, HM.out⟩
theorem claid_v (g b : Nat) (sv : Value) (l : List UInt8) (x : Call) (w : World) (hW : Wr w g sv l) (hB : Blk w b 57 x.vals) (hm : cMay x 118 = true) (hi : x.verf ≤ 9223372036854775807) (hl : l.length ≤ 900000000000) :
    Calls Tryd.prog 72 #[ptr g, .pointer (some ⟨b, 0, none⟩), .int .i32 118] w (Wrote g sv (l ++ cBytes x 118) (.tuple #[]) w) := by
  have hc := hB.cell
  have hm2 : 0 ≤ x.verf := by simpa [cMay] using hm
  obtain ⟨n, hn⟩ := Int.eq_ofNat_of_zero_le (show 0 ≤ x.verf by omega)
  have HN := Lib.hid hn
  have HS := Lib.hid (show cBytes x 118 = num n 8 by simp [cBytes, hn])
  have hb : (n : Int) ≤ 9223372036854775807 := by omega
  clear hn hm hm2 hi
  go_enter Tryd.func72, Tryd.ntmps72
  go_wp2_with fail
  rw [HN.out]
  refine (wU64_any g sv l n _ hW (by omega) (by omega)).mono ?_
  rintro e w1 ⟨rfl, hM⟩
  rw [← HS.out] at hM
  have HM := Lib.hid hM
  clear hM
  go_wp2
  go_end0
  exact ⟨rfl, HM.out⟩
theorem claid_c (g b : Nat) (sv : Value) (l : List UInt8) (x : Call) (w : World) (hW : Wr w g sv l) (hB : Blk w b 57 x.vals) (hm : cMay x 99 = true) (hl : l.length ≤ 900000000000) :
    Calls Tryd.prog 72 #[ptr g, .pointer (some ⟨b, 0, none⟩), .int .i32 99] w (Wrote g sv (l ++ cBytes x 99) (.tuple #[]) w) := by
  have hc := hB.cell
  have hm2 : 0 ≤ x.count ∧ x.count ≤ 4294967295 := by simpa [cMay] using hm
  obtain ⟨n, hn⟩ := Int.eq_ofNat_of_zero_le (show 0 ≤ x.count by omega)
  have HN := Lib.hid hn
  have HS := Lib.hid (show cBytes x 99 = num n 4 by simp [cBytes, hn])
  have hb : (n : Int) ≤ 4294967295 := by omega
  clear hn hm hm2
  go_enter Tryd.func72, Tryd.ntmps72
  go_wp2_with fail
  rw [HN.out]
  refine (wU32_any g sv l n _ hW (by omega) (by omega)).mono ?_
  rintro e w1 ⟨rfl, hM⟩
  rw [← HS.out] at hM
  have HM := Lib.hid hM
  clear hM
  go_wp2
  go_end0
  exact ⟨rfl, HM.out⟩
theorem claid_h (g b : Nat) (sv : Value) (l : List UInt8) (x : Call) (w : World) (hW : Wr w g sv l) (hB : Blk w b 57 x.vals) (hm : cMay x 104 = true) (hl : l.length ≤ 900000000000) :
    Calls Tryd.prog 72 #[ptr g, .pointer (some ⟨b, 0, none⟩), .int .i32 104] w (Wrote g sv (l ++ cBytes x 104) (.tuple #[]) w) := by
  have hc := hB.cell
  have hm2 : 0 ≤ x.how ∧ x.how ≤ 4294967295 := by simpa [cMay] using hm
  obtain ⟨n, hn⟩ := Int.eq_ofNat_of_zero_le (show 0 ≤ x.how by omega)
  have HN := Lib.hid hn
  have HS := Lib.hid (show cBytes x 104 = num n 4 by simp [cBytes, hn])
  have hb : (n : Int) ≤ 4294967295 := by omega
  clear hn hm hm2
  go_enter Tryd.func72, Tryd.ntmps72
  go_wp2_with fail
  rw [HN.out]
  refine (wU32_any g sv l n _ hW (by omega) (by omega)).mono ?_
  rintro e w1 ⟨rfl, hM⟩
  rw [← HS.out] at hM
  have HM := Lib.hid hM
  clear hM
  go_wp2
  go_end0
  exact ⟨rfl, HM.out⟩
end Go.Proofs.YthfhdighniiodaaDoor

/-
  Layer 7, walks: what is to be set, and the guard, are laid; every letter's field. Conditions: a writer and a call at blocks of their own; the field may be.
-/
namespace Go.Proofs.YthfhdighniiodaaDoor
open Go.RowKit
attribute [local go_sem ↓] Go.wp_at_zero Go.wp_at_succ
attribute [local go_sem] rowAt_ptr rowOf_drew rowOf_drewN rowOf_alloc_past rowOf_new
attribute [local go_sem ↓] ldSet ldOpt ldCall

attribute [local go_sem] Call.at0 Call.lat0 Call.at1 Call.lat1 Call.at2 Call.lat2 Call.at3 Call.lat3 Call.at4 Call.lat4 Call.at5 Call.lat5 Call.at6 Call.lat6 Call.at7 Call.lat7 Call.at8 Call.lat8 Call.at9 Call.lat9 Call.at10 Call.lat10 Call.at11 Call.lat11 Call.at12 Call.lat12 Call.at13 Call.lat13 Call.at14 Call.lat14 Call.at15 Call.lat15 Call.at16 Call.lat16 Call.at17 Call.lat17 Call.at18 Call.lat18 Call.at19 Call.lat19 Call.at20 Call.lat20 Call.at21 Call.lat21 Call.at22 Call.lat22 Call.at23 Call.lat23 Call.sub0_24 Call.lsub0_24 Call.sub9_10 Call.lsub9_10 Call.sub9_2 Call.lsub9_2 Call.sub11_2 Call.lsub11_2 Call.sub13_2 Call.lsub13_2 Call.sub15_2 Call.lsub15_2 Call.sub17_2 Call.lsub17_2 Call.sub19_2 Call.lsub19_2 Call.len Sett.at0 Sett.lat0 Sett.at1 Sett.lat1 Sett.at2 Sett.lat2 Sett.at3 Sett.lat3 Sett.at4 Sett.lat4 Sett.at5 Sett.lat5 Sett.at6 Sett.lat6 Sett.at7 Sett.lat7 Sett.at8 Sett.lat8 Sett.at9 Sett.lat9 Sett.sub0_10 Sett.lsub0_10 Sett.sub0_2 Sett.lsub0_2 Sett.sub2_2 Sett.lsub2_2 Sett.sub4_2 Sett.lsub4_2 Sett.sub6_2 Sett.lsub6_2 Sett.sub8_2 Sett.lsub8_2 Sett.len Opt.at0 Opt.lat0 Opt.at1 Opt.lat1 Opt.sub0_2 Opt.lsub0_2 Opt.len

theorem claid_s (g b : Nat) (sv : Value) (l : List UInt8) (x : Call) (w : World) (hW : Wr w g sv l) (hB : Blk w b 57 x.vals) (hm : cMay x 115 = true) (hg : x.set.good) (hl : l.length ≤ 900000000000) :
    Calls Tryd.prog 72 #[ptr g, .pointer (some ⟨b, 0, none⟩), .int .i32 115] w (Wrote g sv (l ++ cBytes x 115) (.tuple #[]) w) := by
  have hr : rowOf w b 9 10 = some x.set.vals.toArray := hB.row 9 10 (by simp [Call.len])
  have hm2 : x.set.ok = true := by simpa [cMay] using hm
  have HS := Lib.hid (show cBytes x 115 = x.set.bytes by simp [cBytes])
  go_enter Tryd.func72, Tryd.ntmps72
  go_wp2_with fail
  refine (putSet_any g sv l x.set _ hW hm2 hg hl).mono ?_
  rintro e w1 ⟨rfl, hM⟩
  rw [← HS.out] at hM
  have HM := Lib.hid hM
  clear hM
  go_wp2
  go_end0
  exact ⟨rfl, HM.out⟩
theorem claid_g (g b : Nat) (sv : Value) (l : List UInt8) (x : Call) (w : World) (hW : Wr w g sv l) (hB : Blk w b 57 x.vals) (hm : cMay x 103 = true) (hg : x.guard.n ≤ 9223372036854775807) (hl : l.length ≤ 900000000000) :
    Calls Tryd.prog 72 #[ptr g, .pointer (some ⟨b, 0, none⟩), .int .i32 103] w (Wrote g sv (l ++ cBytes x 103) (.tuple #[]) w) := by
  have hr : rowOf w b 19 2 = some x.guard.vals.toArray := hB.row 19 2 (by simp [Call.len])
  have hm2 : 0 ≤ x.guard.n := by simp [cMay] at hm; exact hm.1
  have HS := Lib.hid (show cBytes x 103 = optB x.guard.is x.guard.n by simp [cBytes])
  go_enter Tryd.func72, Tryd.ntmps72
  go_wp2_with fail
  refine (wOpt_any g sv l x.guard.is x.guard.n _ hW (fun _ => hm2) hg (by omega)).mono ?_
  rintro e w1 ⟨rfl, hM⟩
  rw [← HS.out] at hM
  have HM := Lib.hid hM
  clear hM
  go_wp2
  go_end0
  exact ⟨rfl, HM.out⟩
theorem claid_any (g b : Nat) (sv : Value) (l : List UInt8) (x : Call) (c : Nat) (w : World) (hc : cLetter c) (hW : Wr w g sv l) (hB : Blk w b 57 x.vals) (hm : cMay x c = true) (hgo : x.offset ≤ 9223372036854775807) (hgk : x.cookie ≤ 9223372036854775807) (hgv : x.verf ≤ 9223372036854775807) (hgs : x.set.good) (hgg : x.guard.n ≤ 9223372036854775807) (hl : l.length ≤ 900000000000) :
    Calls Tryd.prog 72 #[ptr g, .pointer (some ⟨b, 0, none⟩), .int .i32 c] w (Wrote g sv (l ++ cBytes x c) (.tuple #[]) w) := by
  rcases hc with rfl | rfl | rfl | rfl | rfl | rfl | rfl | rfl | rfl | rfl | rfl | rfl | rfl
  · exact claid_f g b sv l x w hW hB hm hl
  · exact claid_f2 g b sv l x w hW hB hm hl
  · exact claid_n g b sv l x w hW hB hm hl
  · exact claid_n2 g b sv l x w hW hB hm hl
  · exact claid_t g b sv l x w hW hB hm hl
  · exact claid_d g b sv l x w hW hB hm hl
  · exact claid_o g b sv l x w hW hB hm hgo hl
  · exact claid_k g b sv l x w hW hB hm hgk hl
  · exact claid_v g b sv l x w hW hB hm hgv hl
  · exact claid_c g b sv l x w hW hB hm hl
  · exact claid_h g b sv l x w hW hB hm hl
  · exact claid_s g b sv l x w hW hB hm hgs hl
  · exact claid_g g b sv l x w hW hB hm hgg hl
end Go.Proofs.YthfhdighniiodaaDoor


/-
  Layer 7, walks: the closure that lays a letter's field. Conditions as told.
-/
namespace Go.Proofs.YthfhdighniiodaaDoor
open Go.RowKit
attribute [local go_sem ↓] Go.wp_at_zero Go.wp_at_succ
attribute [local go_sem] rowAt_ptr rowOf_drew rowOf_drewN rowOf_alloc_past rowOf_new
attribute [local go_sem ↓] ldSet ldOpt ldCall

attribute [local go_sem] Call.at0 Call.lat0 Call.at1 Call.lat1 Call.at2 Call.lat2 Call.at3 Call.lat3 Call.at4 Call.lat4 Call.at5 Call.lat5 Call.at6 Call.lat6 Call.at7 Call.lat7 Call.at8 Call.lat8 Call.at9 Call.lat9 Call.at10 Call.lat10 Call.at11 Call.lat11 Call.at12 Call.lat12 Call.at13 Call.lat13 Call.at14 Call.lat14 Call.at15 Call.lat15 Call.at16 Call.lat16 Call.at17 Call.lat17 Call.at18 Call.lat18 Call.at19 Call.lat19 Call.at20 Call.lat20 Call.at21 Call.lat21 Call.at22 Call.lat22 Call.at23 Call.lat23 Call.sub0_24 Call.lsub0_24 Call.sub9_10 Call.lsub9_10 Call.sub9_2 Call.lsub9_2 Call.sub11_2 Call.lsub11_2 Call.sub13_2 Call.lsub13_2 Call.sub15_2 Call.lsub15_2 Call.sub17_2 Call.lsub17_2 Call.sub19_2 Call.lsub19_2 Call.len Sett.at0 Sett.lat0 Sett.at1 Sett.lat1 Sett.at2 Sett.lat2 Sett.at3 Sett.lat3 Sett.at4 Sett.lat4 Sett.at5 Sett.lat5 Sett.at6 Sett.lat6 Sett.at7 Sett.lat7 Sett.at8 Sett.lat8 Sett.at9 Sett.lat9 Sett.sub0_10 Sett.lsub0_10 Sett.sub0_2 Sett.lsub0_2 Sett.sub2_2 Sett.lsub2_2 Sett.sub4_2 Sett.lsub4_2 Sett.sub6_2 Sett.lsub6_2 Sett.sub8_2 Sett.lsub8_2 Sett.len Opt.at0 Opt.lat0 Opt.at1 Opt.lat1 Opt.sub0_2 Opt.lsub0_2 Opt.len

theorem row_ne_itr {w : World} {base : Nat} {e : TypeId} {size n b pos : Nat} {v : Value} {xs : List Value} {l : List UInt8} (h : w.ownsRow base e size v n xs) (hI : Itr w b l pos) : v.ownBlock ≠ some b := by
  intro hb
  rcases h.2 with ⟨rfl, _⟩ | ⟨g, cap, cur, rfl, _, hg, _⟩
  · simp [Value.ownBlock] at hb
  · simp [Value.ownBlock] at hb
    subst hb
    unfold Itr at hI
    rw [hg] at hI
    cases hI
theorem Wr.foot_ne_itr {w : World} {g b pos : Nat} {sv : Value} {m l : List UInt8} (h : Wr w g sv m) (hI : Itr w b l pos) : ¬ foot g sv b := by
  intro hf
  rcases hf with rfl | hf
  · exact h.1.ne_itr hI rfl
  · exact row_ne_itr h.2 hI hf
/-- the bytes of the first k letters' fields -/
def cLaid (x : Call) (l : List UInt8) (k : Nat) : List UInt8 := (l.take k).flatMap fun c => cBytes x c.toNat
theorem cLaid_succ (x : Call) (l : List UInt8) (k : Nat) (hk : k < l.length) : cLaid x l (k + 1) = cLaid x l k ++ cBytes x l[k].toNat := by
  unfold cLaid
  rw [List.take_add_one, List.getElem?_eq_getElem hk, List.flatMap_append]
  simp
/-- what holds while a call is laid -/
structure Laying (w0 : World) (g h b : Nat) (x : Call) (l : List UInt8) (k : Nat) (W : World) : Prop where
  wr : ∃ sv, Wr W g sv (cLaid x l k) ∧ ∀ i, sv.ownBlock = some i → w0.heap.size ≤ i
  H : Blk W h 84 [ptr g]
  X : Blk W b 57 x.vals
  B : Below w0.heap.size w0 W

theorem put1_any (w0 : World) (g h b : Nat) (hg0 : w0.heap.size ≤ g) (x : Call) (l : List UInt8) (k : Nat) (hk : k < l.length) (hl : cLetter l[k].toNat) (hm : cMay x l[k].toNat = true) (hgo : x.offset ≤ 9223372036854775807) (hgk : x.cookie ≤ 9223372036854775807) (hgv : x.verf ≤ 9223372036854775807) (hgs : x.set.good) (hgg : x.guard.n ≤ 9223372036854775807) (hlen : (cLaid x l k).length ≤ 900000000000) (W : World) (hS : Laying w0 g h b x l k W) :
    Calls Tryd.prog 71 #[.int .i32 l[k].toNat, .pointer (some ⟨h, 0, none⟩), .pointer (some ⟨b, 0, none⟩)] W fun e W' => e = .returned (.bool true) ∧ Laying w0 g h b x l (k + 1) W' ∧ ∀ b l pos, Itr W b l pos → Itr W' b l pos := by
  have HT := Lib.hid (cLaid_succ x l k hk)
  generalize l[k].toNat = c at *
  obtain ⟨⟨sv, hW, hrow⟩, hH, hX, hB⟩ := hS
  have hc := hH.cell
  go_enter Tryd.func71, Tryd.ntmps71
  go_wp2_with fail
  refine (claid_any g b sv _ x c _ hl hW hX hm hgo hgk hgv hgs hgg hlen).mono ?_
  rintro e w1 ⟨rfl, sv1, hW1, hr1, hT1⟩
  rw [← HT.out] at hW1
  have HH : Laying w0 g h b x l (k + 1) w1 := ⟨⟨sv1, hW1, fun i hi => by
      rcases hr1 i hi with h | h
      · exact hrow i h
      · exact Nat.le_trans hB.size h⟩, hW.keeps hH (by decide) (by decide) hT1, hW.keeps hX (by decide) (by decide) hT1,
    hB.trans (hT1.below (fun i _ hf => by
      rcases hf with rfl | hf
      · exact hg0
      · exact hrow i hf) hB.size)⟩
  have HI : ∀ b l pos, Itr W b l pos → Itr w1 b l pos := fun b l pos h => h.touch hT1 (hW.foot_ne_itr h)
  clear hW1 hr1 hT1 hH hX hB hW hrow
  go_wp2
  go_ret
  exact ⟨rfl, HH, HI⟩
end Go.Proofs.YthfhdighniiodaaDoor
