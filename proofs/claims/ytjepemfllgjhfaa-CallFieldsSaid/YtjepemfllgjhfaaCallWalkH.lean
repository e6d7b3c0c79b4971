/-
  Layer 7, walks: what is to be set, and the guard, are laid; every letter's field. Conditions: a writer and a call at blocks of their own; the field may be.
-/
import Derived.Test.YtjepemfllgjhfaaCallWalkG
namespace Go.Proofs.Ytjepemfllgjhfaa
open Go.RowKit
attribute [local go_sem ↓] Go.wp_at_zero Go.wp_at_succ
attribute [local go_sem] rowAt_ptr rowOf_drew rowOf_drewN rowOf_alloc_past rowOf_new
attribute [local go_sem ↓] ldSet ldOpt ldCall

attribute [local go_sem] Call.at0 Call.lat0 Call.at1 Call.lat1 Call.at2 Call.lat2 Call.at3 Call.lat3 Call.at4 Call.lat4 Call.at5 Call.lat5 Call.at6 Call.lat6 Call.at7 Call.lat7 Call.at8 Call.lat8 Call.at9 Call.lat9 Call.at10 Call.lat10 Call.at11 Call.lat11 Call.at12 Call.lat12 Call.at13 Call.lat13 Call.at14 Call.lat14 Call.at15 Call.lat15 Call.at16 Call.lat16 Call.at17 Call.lat17 Call.at18 Call.lat18 Call.at19 Call.lat19 Call.at20 Call.lat20 Call.at21 Call.lat21 Call.at22 Call.lat22 Call.at23 Call.lat23 Call.sub0_24 Call.lsub0_24 Call.sub9_10 Call.lsub9_10 Call.sub9_2 Call.lsub9_2 Call.sub11_2 Call.lsub11_2 Call.sub13_2 Call.lsub13_2 Call.sub15_2 Call.lsub15_2 Call.sub17_2 Call.lsub17_2 Call.sub19_2 Call.lsub19_2 Call.len Sett.at0 Sett.lat0 Sett.at1 Sett.lat1 Sett.at2 Sett.lat2 Sett.at3 Sett.lat3 Sett.at4 Sett.lat4 Sett.at5 Sett.lat5 Sett.at6 Sett.lat6 Sett.at7 Sett.lat7 Sett.at8 Sett.lat8 Sett.at9 Sett.lat9 Sett.sub0_10 Sett.lsub0_10 Sett.sub0_2 Sett.lsub0_2 Sett.sub2_2 Sett.lsub2_2 Sett.sub4_2 Sett.lsub4_2 Sett.sub6_2 Sett.lsub6_2 Sett.sub8_2 Sett.lsub8_2 Sett.len Opt.at0 Opt.lat0 Opt.at1 Opt.lat1 Opt.sub0_2 Opt.lsub0_2 Opt.len

theorem claid_s (g b : Nat) (sv : Value) (l : List UInt8) (x : Call) (w : World) (hW : Wr w g sv l) (hB : Blk w b 89 x.vals) (hm : cMay x 115 = true) (hg : x.set.good) (hl : l.length ≤ 900000000000) :
    Calls Try.prog 59 #[ptr g, .pointer (some ⟨b, 0, none⟩), .int .i32 115] w (Wrote g sv (l ++ cBytes x 115) (.tuple #[]) w) := by
  have hr : rowOf w b 9 10 = some x.set.vals.toArray := hB.row 9 10 (by simp [Call.len])
  have hm2 : x.set.ok = true := by simpa [cMay] using hm
  have HS := Lib.hid (show cBytes x 115 = x.set.bytes by simp [cBytes])
  go_enter Try.func59, Try.ntmps59
  go_wp2_with fail
  refine (putSet_any g sv l x.set _ hW hm2 hg hl).mono ?_
  rintro e w1 ⟨rfl, hM⟩
  rw [← HS.out] at hM
  have HM := Lib.hid hM
  clear hM
  go_wp2
  go_end0
  exact ⟨rfl, HM.out⟩
theorem claid_g (g b : Nat) (sv : Value) (l : List UInt8) (x : Call) (w : World) (hW : Wr w g sv l) (hB : Blk w b 89 x.vals) (hm : cMay x 103 = true) (hg : x.guard.n ≤ 9223372036854775807) (hl : l.length ≤ 900000000000) :
    Calls Try.prog 59 #[ptr g, .pointer (some ⟨b, 0, none⟩), .int .i32 103] w (Wrote g sv (l ++ cBytes x 103) (.tuple #[]) w) := by
  have hr : rowOf w b 19 2 = some x.guard.vals.toArray := hB.row 19 2 (by simp [Call.len])
  have hm2 : 0 ≤ x.guard.n := by simp [cMay] at hm; exact hm.1
  have HS := Lib.hid (show cBytes x 103 = optB x.guard.is x.guard.n by simp [cBytes])
  go_enter Try.func59, Try.ntmps59
  go_wp2_with fail
  refine (wOpt_any g sv l x.guard.is x.guard.n _ hW (fun _ => hm2) hg (by omega)).mono ?_
  rintro e w1 ⟨rfl, hM⟩
  rw [← HS.out] at hM
  have HM := Lib.hid hM
  clear hM
  go_wp2
  go_end0
  exact ⟨rfl, HM.out⟩
theorem claid_any (g b : Nat) (sv : Value) (l : List UInt8) (x : Call) (c : Nat) (w : World) (hc : cLetter c) (hW : Wr w g sv l) (hB : Blk w b 89 x.vals) (hm : cMay x c = true) (hgo : x.offset ≤ 9223372036854775807) (hgk : x.cookie ≤ 9223372036854775807) (hgv : x.verf ≤ 9223372036854775807) (hgs : x.set.good) (hgg : x.guard.n ≤ 9223372036854775807) (hl : l.length ≤ 900000000000) :
    Calls Try.prog 59 #[ptr g, .pointer (some ⟨b, 0, none⟩), .int .i32 c] w (Wrote g sv (l ++ cBytes x c) (.tuple #[]) w) := by
  rcases hc with rfl | rfl | rfl | rfl | rfl | rfl | rfl | rfl | rfl | rfl | rfl | rfl | rfl
  · exact claid_f g b sv l x w hW hB hm hl
  · exact claid_f2 g b sv l x w hW hB hm hl
  · exact claid_n g b sv l x w hW hB hm hl
  · exact claid_n2 g b sv l x w hW hB hm hl
  · exact claid_t g b sv l x w hW hB hm hl
  · exact claid_d g b sv l x w hW hB hm hl
  · exact claid_o g b sv l x w hW hB hm hgo hl
  · exact claid_k g b sv l x w hW hB hm hgk hl
  · exact claid_v g b sv l x w hW hB hm hgv hl
  · exact claid_c g b sv l x w hW hB hm hl
  · exact claid_h g b sv l x w hW hB hm hl
  · exact claid_s g b sv l x w hW hB hm hgs hl
  · exact claid_g g b sv l x w hW hB hm hgg hl
end Go.Proofs.Ytjepemfllgjhfaa
