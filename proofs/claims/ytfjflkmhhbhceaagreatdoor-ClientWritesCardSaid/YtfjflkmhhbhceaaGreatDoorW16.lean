/-
  Layer 1 in plain words: what was written is read again. Conditions: numbers that may be written; texts below 2^32 bytes.
-/
import Derived.Test.YtfjflkmhhbhceaaGreatDoorW14
import Derived.Test.YtfjflkmhhbhceaaGreatDoorW08
import Derived.Test.YtfjflkmhhbhceaaGreatDoorW15
import Derived.Test.YtfjflkmhhbhceaaGreatDoorW10
import Derived.Deep.Cut
import Derived.Test.YtfjflkmhhbhceaaGreatDoorW11
import Derived.Test.YtfjflkmhhbhceaaGreatDoorW12
import Derived.Test.YtfjflkmhhbhceaaGreatDoorW13
namespace Go.Proofs.YtfjflkmhhbhceaaGreatDoor

theorem rNum_back (n k : Nat) (rest : List UInt8) (h : n < 256 ^ k) : rNum k ⟨num n k ++ rest, 0⟩ = (n, ⟨rest, 0⟩) := by
  have h1 : (num n k ++ rest).take k = num n k := List.take_left' (num_len n k)
  have h2 : (num n k ++ rest).drop k = rest := List.drop_left' (num_len n k)
  have h3 : ¬ (num n k ++ rest).length < k := by rw [List.length_append, num_len]; omega
  simp only [rNum, ne_eq, not_true_eq_false, if_false]
  rw [if_neg h3, h1, h2, beVal_num n k h]
theorem rU32_back (n : Nat) (rest : List UInt8) (h : n < 4294967296) : rU32 ⟨num n 4 ++ rest, 0⟩ = (n, ⟨rest, 0⟩) := rNum_back n 4 rest h
theorem rU64_back (n : Nat) (rest : List UInt8) (h : n < 9223372036854775808) : rU64 ⟨num n 8 ++ rest, 0⟩ = (n, ⟨rest, 0⟩) := by
  have h1 := rNum_back n 8 rest (by omega)
  simp [rU64, h1]; omega
theorem rBool_back (b : Bool) (rest : List UInt8) : rBool ⟨truth b ++ rest, 0⟩ = (b, ⟨rest, 0⟩) := by
  have h1 := rU32_back (if b then 1 else 0) rest (by split <;> omega)
  unfold rBool truth
  rw [h1]
  cases b <;> simp
theorem rPadded_back (s rest : List UInt8) : rPadded s.length ⟨filled s ++ rest, 0⟩ = (s, ⟨rest, 0⟩) := by
  have hf : filled s ++ rest = s ++ (List.replicate (padn s.length) 0 ++ rest) := by simp [filled]
  have h1 : ¬ (filled s ++ rest).length < s.length := by rw [hf, List.length_append]; omega
  have h2 : (filled s ++ rest).drop s.length = List.replicate (padn s.length) 0 ++ rest := by rw [hf]; exact List.drop_left
  have h3 : (filled s ++ rest).take s.length = s := by rw [hf]; exact List.take_left
  have h4 : ¬ (List.replicate (padn s.length) (0 : UInt8) ++ rest).length < padn s.length := by rw [List.length_append, List.length_replicate]; omega
  have h5 : (List.replicate (padn s.length) (0 : UInt8) ++ rest).take (padn s.length) = List.replicate (padn s.length) 0 := List.take_left' (by simp)
  have h6 : (List.replicate (padn s.length) (0 : UInt8) ++ rest).drop (padn s.length) = rest := List.drop_left' (by simp)
  simp only [rPadded, ne_eq, not_true_eq_false, if_false, h1, h2, h3, h4, h5, h6]
  rw [if_pos]
  simp
theorem rOpaque_back (s rest : List UInt8) (most : Int) (hs : s.length < 4294967296) (hm : (s.length : Int) ≤ most) : rOpaque most ⟨opq s ++ rest, 0⟩ = (s, ⟨rest, 0⟩) := by
  have h1 : rU32 ⟨opq s ++ rest, 0⟩ = (s.length, ⟨filled s ++ rest, 0⟩) := by
    rw [opq, List.append_assoc]; exact rU32_back _ _ hs
  have h2 : ¬ most < (s.length : Int) := by omega
  simp only [rOpaque, h1, ne_eq, not_true_eq_false, if_false, h2]
  exact rPadded_back s rest
theorem rOpt_back (b : Bool) (n : Int) (rest : List UInt8) (h : b = true → 0 ≤ n) (hn : n ≤ 9223372036854775807) : rOpt ⟨optB b n ++ rest, 0⟩ = ((b, if b then n.toNat else 0), ⟨rest, 0⟩) := by
  cases b
  · have h1 := rBool_back false rest
    simp only [optB, Bool.false_eq_true, if_false, List.append_nil] at *
    simp [rOpt, h1]
  · have h1 := rBool_back true (num n.toNat 8 ++ rest)
    have h2 := rU64_back n.toNat rest (by have := h rfl; omega)
    simp only [optB, if_true, List.append_assoc] at *
    simp [rOpt, h1, h2]

end Go.Proofs.YtfjflkmhhbhceaaGreatDoor

/-
  Layer 1 in plain words: what was read, written once more, is the bytes that were taken. No condition but that there was no error.
-/
namespace Go.Proofs.YtfjflkmhhbhceaaGreatDoor
open Go.RowKit

end Go.Proofs.YtfjflkmhhbhceaaGreatDoor


/-
  Layer 1 in plain words: what was refused stays refused; numbers that were read are machine numbers. No condition.
-/
namespace Go.Proofs.YtfjflkmhhbhceaaGreatDoor
open Go.RowKit

-- what is refused stays refused
theorem rNum_stick {k : Nat} {r : Rs} (h : r.e ≠ 0) : rNum k r = (0, r) := by unfold rNum; rw [if_pos h]
theorem rU32_stick {r : Rs} (h : r.e ≠ 0) : rU32 r = (0, r) := rNum_stick h
theorem rU64_stick {r : Rs} (h : r.e ≠ 0) : rU64 r = (0, r) := by unfold rU64; rw [rNum_stick h]; simp
theorem rBool_stick {r : Rs} (h : r.e ≠ 0) : rBool r = (false, r) := by unfold rBool; rw [rU32_stick h]; simp
theorem rOpt_stick {r : Rs} (h : r.e ≠ 0) : rOpt r = ((false, 0), r) := by unfold rOpt; rw [rBool_stick h]; simp
theorem rOpaque_stick {n : Int} {r : Rs} (h : r.e ≠ 0) : rOpaque n r = ([], r) := by unfold rOpaque; rw [rU32_stick h, if_pos h]
theorem rU64_lt (r : Rs) : ((rU64 r).1 : Int) ≤ 9223372036854775807 := by
  unfold rU64
  split
  · exact Int.le_of_lt_add_one (by decide)
  · omega
end Go.Proofs.YtfjflkmhhbhceaaGreatDoor


/-
  Layer 7, walks: a call's bytes. Conditions: the call's numbers are machine numbers.
-/
namespace Go.Proofs.YtfjflkmhhbhceaaGreatDoor
open Go.RowKit
attribute [local go_sem ↓] Go.wp_at_zero Go.wp_at_succ
attribute [local go_sem] rowAt_ptr rowOf_drew rowOf_drewN rowOf_alloc_past rowOf_new
attribute [local go_sem ↓] ldSet ldOpt ldCall

attribute [local go_sem] Call.at0 Call.lat0 Call.at1 Call.lat1 Call.at2 Call.lat2 Call.at3 Call.lat3 Call.at4 Call.lat4 Call.at5 Call.lat5 Call.at6 Call.lat6 Call.at7 Call.lat7 Call.at8 Call.lat8 Call.at9 Call.lat9 Call.at10 Call.lat10 Call.at11 Call.lat11 Call.at12 Call.lat12 Call.at13 Call.lat13 Call.at14 Call.lat14 Call.at15 Call.lat15 Call.at16 Call.lat16 Call.at17 Call.lat17 Call.at18 Call.lat18 Call.at19 Call.lat19 Call.at20 Call.lat20 Call.at21 Call.lat21 Call.at22 Call.lat22 Call.at23 Call.lat23 Call.sub0_24 Call.lsub0_24 Call.sub9_10 Call.lsub9_10 Call.sub9_2 Call.lsub9_2 Call.sub11_2 Call.lsub11_2 Call.sub13_2 Call.lsub13_2 Call.sub15_2 Call.lsub15_2 Call.sub17_2 Call.lsub17_2 Call.sub19_2 Call.lsub19_2 Call.len Sett.at0 Sett.lat0 Sett.at1 Sett.lat1 Sett.at2 Sett.lat2 Sett.at3 Sett.lat3 Sett.at4 Sett.lat4 Sett.at5 Sett.lat5 Sett.at6 Sett.lat6 Sett.at7 Sett.lat7 Sett.at8 Sett.lat8 Sett.at9 Sett.lat9 Sett.sub0_10 Sett.lsub0_10 Sett.sub0_2 Sett.lsub0_2 Sett.sub2_2 Sett.lsub2_2 Sett.sub4_2 Sett.lsub4_2 Sett.sub6_2 Sett.lsub6_2 Sett.sub8_2 Sett.lsub8_2 Sett.len Opt.at0 Opt.lat0 Opt.at1 Opt.lat1 Opt.sub0_2 Opt.lsub0_2 Opt.len

set_option maxRecDepth 20000 in
set_option maxHeartbeats 400000 in
theorem put7_any (x : Call) (w : World) (hgo : x.offset ≤ 9223372036854775807) (hgk : x.cookie ≤ 9223372036854775807) (hgv : x.verf ≤ 9223372036854775807) (hgs : x.set.good) (hgg : x.guard.n ≤ 9223372036854775807) :
    Calls Tryz.prog 86 #[.agg x.vals.toArray] w fun e w' => e = .returned (.tuple #[.string (bs (cPut x).1), .int .i64 (cPut x).2]) ∧ Below w.heap.size w w' := by
  have hb := Blk.new w 36 x.vals
  have hB : Below w.heap.size w (w.alloc (.cells x.vals.toArray 36)) := (Below.refl _ _).alloc (Nat.le_refl _) _
  have rX : rowOf (w.alloc (.cells x.vals.toArray 36)) w.heap.size 0 24 = some x.vals.toArray := hb.row 0 24 (by simp [Call.len])
  have hcf : ∀ args W, (callFunc 125 args).run Tryz.prog W = .ok (.enter 125 args) W := fun args W => by kernel_rfl
  by_cases hck : cCheck x = 0
  · have HS := Lib.hid (show cPut x = (cLaid x (cFields x.proc) (cFields x.proc).length, 0) by simp [cPut, hck])
    have hma := cCheck_fine hck
    go_enter Tryz.func86, Tryz.ntmps86
    go_wp2_with fail
    refine (check7_any x _).mono ?_
    rintro e w1 ⟨rfl, hb1⟩
    rw [hck]
    have hX := hb.stays hb1
    have hB1 := below_then hB hb1
    clear rX hb hB
    have hW := Wr.fresh w1
    have hX2 := hX.alloc (.cells #[.slice none 0 0] 195)
    have hB2 := hB1.alloc hB1.size (.cells #[.slice none 0 0] 195)
    have hs2 : (w1.alloc (.cells #[.slice none 0 0] 195)).heap.size = w1.heap.size + 1 := by simp
    have hW3 := hW.alloc (.cells #[ptr w1.heap.size] 193)
    have hX3 := hX2.alloc (.cells #[ptr w1.heap.size] 193)
    have hB3 := hB2.alloc hB2.size (.cells #[ptr w1.heap.size] 193)
    have hH3 := Blk.new (w1.alloc (.cells #[.slice none 0 0] 195)) 193 [ptr w1.heap.size]
    rw [hs2] at hH3
    have hlt : w.heap.size < w1.heap.size := Nat.lt_of_lt_of_le (by simp) hb1.size
    have hcX := hX.cell
    have HX := Lib.hid hX3
    have HW3 := Lib.hid hW3
    have HB := Lib.hid hB3
    have HH3 := Lib.hid hH3
    clear hX3 hW3 hB3 hH3 hX2 hB2 hs2 hW hX hB1 hb1
    go_wp2_with fail
    have hl := fun k (hk : k < (cFields x.proc).length) => cFields_letter x.proc hk
    have hlen := cLaid_len x (cFields x.proc) hma hl
    have hsh := cFields_short x.proc
    change Calls _ _ #[_, .func (.func _) #[] [ptr (w1.heap.size + 1), ptr w.heap.size].toArray] _ _
    refine (each_any x.proc 125 [ptr (w1.heap.size + 1), ptr w.heap.size] _ (fun _ => true) (Laying w w1.heap.size (w1.heap.size + 1) w.heap.size x (cFields x.proc)) hcf ?_ ?_ ?_).mono ?_
    · exact fun W h => ⟨⟨.slice none 0 0, HW3.out.stays h, by simp [Value.ownBlock]⟩, HH3.out.stays h, HX.out.stays h, below_then HB.out h⟩
    · exact fun k W b l pos pos' hb h hI => by
        obtain ⟨⟨sv, hW, hrow⟩, hH, hX, hB⟩ := h
        refine ⟨⟨sv, ?_, hrow⟩, hH.farIter (hH.ne_itr hI) _ _, hX.farIter (hX.ne_itr hI) _ _, Below.setIter hB (Nat.le_trans HB.out.size hb) _ _⟩
        exact hW.touch ((Touch.refl (fun k => k = b) W).setIter (.inl rfl) _ _) fun k hf e => hW.foot_ne_itr hI (e ▸ hf)
    · intro k hk W hS
      exact put1_any w _ _ _ (Nat.le_of_lt hlt) x _ k hk (hl k hk) (by
        rw [cMayAll, List.all_eq_true] at hma
        exact hma _ (List.getElem_mem hk)) hgo hgk hgv hgs hgg (by have := hlen k (Nat.le_of_lt hk); omega) W hS
    · rintro e w5 ⟨m, hS, hcase⟩
      rcases hcase with ⟨rfl, hall, rfl⟩ | ⟨j, rfl, hj, hok, hbad, rfl⟩
      · obtain ⟨⟨sv, hW, hrow⟩, hH, hX, hB⟩ := hS
        have hcH := hH.cell
        clear hX hcX hlen hl hma hH HX HW3 HB HH3 hall hsh
        generalize cLaid x (cFields x.proc) (cFields x.proc).length = l at *
        go_wp2_with fail
        refine (wText_any _ sv _ _ hW).mono ?_
        rintro e w6 ⟨rfl, rfl⟩
        go_wp2
        go_ret2
        rw [HS.out]
        exact ⟨rfl, hB⟩
      · cases hbad
  · have HS := Lib.hid (show cPut x = ([], cCheck x) by simp [cPut, hck])
    have h1 : ((cCheck x != 0) = true) := by simpa using hck
    have hc6 := fun W => check7_any x W
    generalize cCheck x = n at *
    go_enter Tryz.func86, Tryz.ntmps86
    go_wp2_with fail
    refine (hc6 _).mono ?_
    rintro e w1 ⟨rfl, hb1⟩
    go_wp2
    go_ret2
    rw [HS.out]
    exact ⟨rfl, below_then hB hb1⟩
end Go.Proofs.YtfjflkmhhbhceaaGreatDoor


/-
  Layer 7, walks: the field of a letter is taken (written by wip/tools/gentaken.py). Conditions: a reader and a call at blocks of their own; machine texts.
-/
namespace Go.Proofs.YtfjflkmhhbhceaaGreatDoor
open Go.RowKit
attribute [local go_sem ↓] Go.wp_at_zero Go.wp_at_succ
attribute [local go_sem] rowAt_ptr rowOf_drew rowOf_drewN rowOf_alloc_past rowOf_new
attribute [local go_sem ↓] ldSet ldOpt

theorem infoSettM : (Tryz.prog.info? 34).map (fun i => (i.zero, i.size)) = some (some (.agg settZ.vals.toArray), 10) := by kernel_rfl
/-- the field of a letter is taken -/
def cTk (c : Nat) (z : Call) (r : Rs) : Call × Rs :=
  if c = 102 then ({ z with fh := (rOpaque 64 r).1 }, (rOpaque 64 r).2) else
  if c = 70 then ({ z with fh2 := (rOpaque 64 r).1 }, (rOpaque 64 r).2) else
  if c = 110 then ({ z with name := (rOpaque 255 r).1 }, (rOpaque 255 r).2) else
  if c = 78 then ({ z with name2 := (rOpaque 255 r).1 }, (rOpaque 255 r).2) else
  if c = 116 then ({ z with text := (rOpaque 255 r).1 }, (rOpaque 255 r).2) else
  if c = 100 then ({ z with data := (rOpaque 256 r).1 }, (rOpaque 256 r).2) else
  if c = 111 then ({ z with offset := (rU64 r).1 }, (rU64 r).2) else
  if c = 107 then ({ z with cookie := (rU64 r).1 }, (rU64 r).2) else
  if c = 118 then ({ z with verf := (rU64 r).1 }, (rU64 r).2) else
  if c = 99 then ({ z with count := (rU32 r).1 }, (rU32 r).2) else
  if c = 104 then ({ z with how := (rU32 r).1 }, (rU32 r).2) else
  if c = 115 then ({ z with set := (gotR Sett.ok settZ (rSett r)).1 }, (rSett r).2) else
  if c = 103 then ({ z with guard := optOf (rOpt r).1 }, (rOpt r).2) else (z, r)
/-- may it be -/
def cTkOk (c : Nat) (r : Rs) : Bool := if c = 115 then (gotR Sett.ok settZ (rSett r)).2 == 0 else (cTk c callZ r).2.e == 0
end Go.Proofs.YtfjflkmhhbhceaaGreatDoor

/-
  Layer 7, walks: the call of bytes. Condition: a machine text.
-/
namespace Go.Proofs.YtfjflkmhhbhceaaGreatDoor
open Go.RowKit
attribute [local go_sem ↓] Go.wp_at_zero Go.wp_at_succ
attribute [local go_sem] rowAt_ptr rowOf_drew rowOf_drewN rowOf_alloc_past rowOf_new
attribute [local go_sem ↓] ldSet ldOpt ldCall

attribute [local go_sem] Call.at0 Call.lat0 Call.at1 Call.lat1 Call.at2 Call.lat2 Call.at3 Call.lat3 Call.at4 Call.lat4 Call.at5 Call.lat5 Call.at6 Call.lat6 Call.at7 Call.lat7 Call.at8 Call.lat8 Call.at9 Call.lat9 Call.at10 Call.lat10 Call.at11 Call.lat11 Call.at12 Call.lat12 Call.at13 Call.lat13 Call.at14 Call.lat14 Call.at15 Call.lat15 Call.at16 Call.lat16 Call.at17 Call.lat17 Call.at18 Call.lat18 Call.at19 Call.lat19 Call.at20 Call.lat20 Call.at21 Call.lat21 Call.at22 Call.lat22 Call.at23 Call.lat23 Call.sub0_24 Call.lsub0_24 Call.sub9_10 Call.lsub9_10 Call.sub9_2 Call.lsub9_2 Call.sub11_2 Call.lsub11_2 Call.sub13_2 Call.lsub13_2 Call.sub15_2 Call.lsub15_2 Call.sub17_2 Call.lsub17_2 Call.sub19_2 Call.lsub19_2 Call.len Sett.at0 Sett.lat0 Sett.at1 Sett.lat1 Sett.at2 Sett.lat2 Sett.at3 Sett.lat3 Sett.at4 Sett.lat4 Sett.at5 Sett.lat5 Sett.at6 Sett.lat6 Sett.at7 Sett.lat7 Sett.at8 Sett.lat8 Sett.at9 Sett.lat9 Sett.sub0_10 Sett.lsub0_10 Sett.sub0_2 Sett.lsub0_2 Sett.sub2_2 Sett.lsub2_2 Sett.sub4_2 Sett.lsub4_2 Sett.sub6_2 Sett.lsub6_2 Sett.sub8_2 Sett.lsub8_2 Sett.len Opt.at0 Opt.lat0 Opt.at1 Opt.lat1 Opt.sub0_2 Opt.lsub0_2 Opt.len

/-- the first k letters' fields are taken -/
def cSt (l : List UInt8) (z : Call) (r : Rs) (k : Nat) : Call × Rs := (l.take k).foldl (fun x c => cTk c.toNat x.1 x.2) (z, r)
theorem cSt_succ (l : List UInt8) (z : Call) (r : Rs) (k : Nat) (hk : k < l.length) : cSt l z r (k + 1) = cTk l[k].toNat (cSt l z r k).1 (cSt l z r k).2 := by
  unfold cSt
  rw [List.take_add_one, List.getElem?_eq_getElem hk, List.foldl_append]
  rfl
theorem cOpaque_len {n : Int} {r : Rs} (h : r.s.length ≤ 9223372036854775807) : (rOpaque n r).2.s.length ≤ r.s.length := by
  unfold rOpaque; split
  · exact rU32_len h
  · split
    · simp [Rs.fail]
    · exact Nat.le_trans (rPadded_len (Nat.le_trans (rU32_len h) h)) (rU32_len h)
theorem ite_of {α : Type} (P : α → Prop) {c : Prop} [Decidable c] {a b : α} (ha : P a) (hb : P b) : P (if c then a else b) := by split <;> assumption
theorem cTk_le (c : Nat) (z : Call) {r : Rs} {M : Nat} (ho : ∀ n, (rOpaque n r).2.s.length ≤ M) (h8 : (rU64 r).2.s.length ≤ M) (h4 : (rU32 r).2.s.length ≤ M) (hs : (rSett r).2.s.length ≤ M) (hg : (rOpt r).2.s.length ≤ M) (h : r.s.length ≤ M) : (cTk c z r).2.s.length ≤ M := by
  unfold cTk
  exact (ite_of (fun x : Call × Rs => x.2.s.length ≤ M) (ho _) (ite_of (fun x : Call × Rs => x.2.s.length ≤ M) (ho _) (ite_of (fun x : Call × Rs => x.2.s.length ≤ M) (ho _) (ite_of (fun x : Call × Rs => x.2.s.length ≤ M) (ho _) (ite_of (fun x : Call × Rs => x.2.s.length ≤ M) (ho _) (ite_of (fun x : Call × Rs => x.2.s.length ≤ M) (ho _) (ite_of (fun x : Call × Rs => x.2.s.length ≤ M) h8 (ite_of (fun x : Call × Rs => x.2.s.length ≤ M) h8 (ite_of (fun x : Call × Rs => x.2.s.length ≤ M) h8 (ite_of (fun x : Call × Rs => x.2.s.length ≤ M) h4 (ite_of (fun x : Call × Rs => x.2.s.length ≤ M) h4 (ite_of (fun x : Call × Rs => x.2.s.length ≤ M) hs (ite_of (fun x : Call × Rs => x.2.s.length ≤ M) hg h)))))))))))))
theorem cTk_len (c : Nat) (z : Call) {r : Rs} (h : r.s.length ≤ 9223372036854775807) : (cTk c z r).2.s.length ≤ 9223372036854775807 :=
  cTk_le c z (fun n => Nat.le_trans (cOpaque_len (n := n) h) h) (Nat.le_trans (rU64_len h) h) (Nat.le_trans (rU32_len h) h) (settK_len r 5 h) (Nat.le_trans (rOpt_len h) h) h
theorem cSt_len (l : List UInt8) (z : Call) {r : Rs} (h : r.s.length ≤ 9223372036854775807) (k : Nat) (hk : k ≤ l.length) : (cSt l z r k).2.s.length ≤ 9223372036854775807 := by
  induction k with
  | zero => exact h
  | succ k ih => rw [cSt_succ _ _ _ _ (by omega)]; exact cTk_len _ _ (ih (by omega))
/-- may the field of the letter be -/
def cStOk (l : List UInt8) (z : Call) (r : Rs) (k : Nat) : Bool := cTkOk (l.getD k 0).toNat (cSt l z r k).2
/-- the call of bytes, or the error -/
def cGet (p : Int) (s : List UInt8) : Call × Int :=
  if cThere p = false then (callZ, 22)
  else if (∀ k, k < (cFields p).length → cStOk (cFields p) { callZ with proc := p } ⟨s, 0⟩ k = true) ∧ rDone (cSt (cFields p) { callZ with proc := p } ⟨s, 0⟩ (cFields p).length).2 = 0
  then ((cSt (cFields p) { callZ with proc := p } ⟨s, 0⟩ (cFields p).length).1, 0) else (callZ, 14)
end Go.Proofs.YtfjflkmhhbhceaaGreatDoor


/-
  Layer 5, walks: what the reference gets. Conditions: a reader at a block of its own; texts are machine texts.
-/
namespace Go.Proofs.YtfjflkmhhbhceaaGreatDoor
open Go.RowKit
attribute [local go_sem ↓] Go.wp_at_zero Go.wp_at_succ
attribute [local go_sem] rowAt_ptr rowOf_drew rowOf_drewN rowOf_alloc_past rowOf_new
attribute [local go_sem ↓] ldAttrR ldOpt ldSet ldPost ldWcc

attribute [local go_sem] Attr.at0 Attr.lat0 Attr.at1 Attr.lat1 Attr.at2 Attr.lat2 Attr.at3 Attr.lat3 Attr.at4 Attr.lat4 Attr.at5 Attr.lat5 Attr.at6 Attr.lat6 Attr.at7 Attr.lat7 Attr.at8 Attr.lat8 Attr.at9 Attr.lat9 Attr.sub0_10 Attr.lsub0_10 Attr.len Opt.at0 Opt.lat0 Opt.at1 Opt.lat1 Opt.sub0_2 Opt.lsub0_2 Opt.len Sett.at0 Sett.lat0 Sett.at1 Sett.lat1 Sett.at2 Sett.lat2 Sett.at3 Sett.lat3 Sett.at4 Sett.lat4 Sett.at5 Sett.lat5 Sett.at6 Sett.lat6 Sett.at7 Sett.lat7 Sett.at8 Sett.lat8 Sett.at9 Sett.lat9 Sett.sub0_10 Sett.lsub0_10 Sett.sub0_2 Sett.lsub0_2 Sett.sub2_2 Sett.lsub2_2 Sett.sub4_2 Sett.lsub4_2 Sett.sub6_2 Sett.lsub6_2 Sett.sub8_2 Sett.lsub8_2 Sett.len Post.at0 Post.lat0 Post.at1 Post.lat1 Post.at2 Post.lat2 Post.at3 Post.lat3 Post.at4 Post.lat4 Post.at5 Post.lat5 Post.at6 Post.lat6 Post.at7 Post.lat7 Post.at8 Post.lat8 Post.at9 Post.lat9 Post.at10 Post.lat10 Post.sub0_11 Post.lsub0_11 Post.sub1_10 Post.lsub1_10 Post.len Wcc.at0 Wcc.lat0 Wcc.at1 Wcc.lat1 Wcc.at2 Wcc.lat2 Wcc.at3 Wcc.lat3 Wcc.at4 Wcc.lat4 Wcc.at5 Wcc.lat5 Wcc.at6 Wcc.lat6 Wcc.at7 Wcc.lat7 Wcc.at8 Wcc.lat8 Wcc.at9 Wcc.lat9 Wcc.at10 Wcc.lat10 Wcc.at11 Wcc.lat11 Wcc.at12 Wcc.lat12 Wcc.sub0_13 Wcc.lsub0_13 Wcc.sub0_2 Wcc.lsub0_2 Wcc.sub2_11 Wcc.lsub2_11 Wcc.sub3_10 Wcc.lsub3_10 Wcc.len optV

theorem ReadsF.drew {g : Nat} {r : Rs} {w wx : World} (h : ReadsF g r w wx) : ReadsF g r w wx.drew := by
  obtain ⟨⟨S, a, hB, k⟩, hT⟩ := h
  exact ⟨⟨S, a, hB.drew, k⟩, hT.drew⟩

set_option maxRecDepth 20000 in
set_option maxHeartbeats 4800000 in
theorem refGetSett_any (g : Nat) (r : Rs) (w : World) (hR : RdF w g r) :
    Calls Tryz.prog 57 #[.pointer (some ⟨g, 0, none⟩)] w (GaveF g (rSett r).2 (gotV (gotR Sett.ok settZ (rSett r)).1.vals (gotR Sett.ok settZ (rSett r)).2) w) := by
  obtain ⟨hbr, hbp, hB, hsz⟩ := chain2_blks w settZ.vals settZ.vals 34 34
  have hR1 := hR.stays hB
  have hQ1 := ReadsF.behind hB (ReadsF.refl hR1)
  have hne : w.heap.size ≠ g := Nat.ne_of_gt hR.lt
  have hne1 : w.heap.size + 1 ≠ g := by have := hR.lt; omega
  clear hR hR1
  go_enter Tryz.func57, Tryz.ntmps57
  go_wp2_with fail
  change Calls _ _ _ ((w.alloc (.cells settZ.vals.toArray 34)).alloc (.cells settZ.vals.toArray 34)) _
  generalize (w.alloc (.cells settZ.vals.toArray 34)).alloc (.cells settZ.vals.toArray 34) = W0 at *
  refine (refOptR_any g r _ hQ1.1).mono ?_
  rintro e v0 ⟨he, hQ⟩
  obtain ⟨x0, hx0⟩ : ∃ x, x = rOpt r := ⟨_, rfl⟩
  rw [← hx0] at he hQ
  have HX0 := Lib.hid hx0.symm
  clear hx0
  subst he
  obtain ⟨a0, r0⟩ := x0
  simp only at hQ
  have hbr' := Blk.farCells (g := w.heap.size) (b := w.heap.size + 1) (by omega) (optV a0) 0 _ (hQ.keeps hbr hne)
  have hbp0 := hQ.keeps hbp hne1
  have hbp' := hbp0.sets (optV a0) _ 0
  rw [show setAt _ 0 (optV a0) = (setOpt settZ (optOf a0) 0).vals from rfl] at hbp'
  have hq := hQ1.trans hQ
  have hQ' : ReadsF g r0 w (v0.setCells (w.heap.size + 1) 0 (optV a0)) := ⟨hq.1.touch (Touch.setCells (F := fun i => i = w.heap.size + 1) (.inl rfl) _ 0 v0 (Touch.refl _ _)) (fun hh => hne1 hh.symm), Touch.setCells (.inr (by omega)) _ 0 v0 hq.2⟩
  obtain ⟨W0, hW0⟩ : ∃ W, W = v0.setCells (w.heap.size + 1) 0 (optV a0) := ⟨_, rfl⟩
  rw [← hW0] at hbr' hbp' hQ'
  have HW0 := Lib.hid hW0
  clear hbr hbp hQ1 hQ hq hW0
  have hbr := hbr'
  have hbp := hbp'
  have hQ1 := hQ'
  clear hbr' hbp' hQ'
  go_wp2_with (first | (refine wpList_store_part (by rfl) 32 _ _ (by rfl) (w.heap.size + 1) 0 (optV a0) _ hbp0 (by simp [Sett.len, optV]) (by rfl) (by rfl) (by kernel_rfl) (optV_one _) ?_; rw [← HW0.out]) | fail)
  clear hbp0
  refine (refOptR_any g r0 _ hQ1.1).mono ?_
  rintro e v1 ⟨he, hQ⟩
  obtain ⟨x1, hx1⟩ : ∃ x, x = rOpt r0 := ⟨_, rfl⟩
  rw [← hx1] at he hQ
  have HX1 := Lib.hid hx1.symm
  clear hx1
  subst he
  obtain ⟨a1, r1⟩ := x1
  simp only at hQ
  have hbr' := Blk.farCells (g := w.heap.size) (b := w.heap.size + 1) (by omega) (optV a1) 2 _ (hQ.keeps hbr hne)
  have hbp0 := hQ.keeps hbp hne1
  have hbp' := hbp0.sets (optV a1) _ 2
  rw [show setAt _ 2 (optV a1) = (setOpt (setOpt settZ (optOf a0) 0) (optOf a1) 1).vals from rfl] at hbp'
  have hq := hQ1.trans hQ
  have hQ' : ReadsF g r1 w (v1.setCells (w.heap.size + 1) 2 (optV a1)) := ⟨hq.1.touch (Touch.setCells (F := fun i => i = w.heap.size + 1) (.inl rfl) _ 2 v1 (Touch.refl _ _)) (fun hh => hne1 hh.symm), Touch.setCells (.inr (by omega)) _ 2 v1 hq.2⟩
  obtain ⟨W1, hW1⟩ : ∃ W, W = v1.setCells (w.heap.size + 1) 2 (optV a1) := ⟨_, rfl⟩
  rw [← hW1] at hbr' hbp' hQ'
  have HW1 := Lib.hid hW1
  clear hbr hbp hQ1 hQ hq hW1
  have hbr := hbr'
  have hbp := hbp'
  have hQ1 := hQ'
  clear hbr' hbp' hQ'
  go_wp2_with (first | (refine wpList_store_part (by rfl) 32 _ _ (by rfl) (w.heap.size + 1) 2 (optV a1) _ hbp0 (by simp [Sett.len, optV]) (by rfl) (by rfl) (by kernel_rfl) (optV_one _) ?_; rw [← HW1.out]) | fail)
  clear hbp0
  refine (refOptR_any g r1 _ hQ1.1).mono ?_
  rintro e v2 ⟨he, hQ⟩
  obtain ⟨x2, hx2⟩ : ∃ x, x = rOpt r1 := ⟨_, rfl⟩
  rw [← hx2] at he hQ
  have HX2 := Lib.hid hx2.symm
  clear hx2
  subst he
  obtain ⟨a2, r2⟩ := x2
  simp only at hQ
  have hbr' := Blk.farCells (g := w.heap.size) (b := w.heap.size + 1) (by omega) (optV a2) 4 _ (hQ.keeps hbr hne)
  have hbp0 := hQ.keeps hbp hne1
  have hbp' := hbp0.sets (optV a2) _ 4
  rw [show setAt _ 4 (optV a2) = (setOpt (setOpt (setOpt settZ (optOf a0) 0) (optOf a1) 1) (optOf a2) 2).vals from rfl] at hbp'
  have hq := hQ1.trans hQ
  have hQ' : ReadsF g r2 w (v2.setCells (w.heap.size + 1) 4 (optV a2)) := ⟨hq.1.touch (Touch.setCells (F := fun i => i = w.heap.size + 1) (.inl rfl) _ 4 v2 (Touch.refl _ _)) (fun hh => hne1 hh.symm), Touch.setCells (.inr (by omega)) _ 4 v2 hq.2⟩
  obtain ⟨W2, hW2⟩ : ∃ W, W = v2.setCells (w.heap.size + 1) 4 (optV a2) := ⟨_, rfl⟩
  rw [← hW2] at hbr' hbp' hQ'
  have HW2 := Lib.hid hW2
  clear hbr hbp hQ1 hQ hq hW2
  have hbr := hbr'
  have hbp := hbp'
  have hQ1 := hQ'
  clear hbr' hbp' hQ'
  go_wp2_with (first | (refine wpList_store_part (by rfl) 32 _ _ (by rfl) (w.heap.size + 1) 4 (optV a2) _ hbp0 (by simp [Sett.len, optV]) (by rfl) (by rfl) (by kernel_rfl) (optV_one _) ?_; rw [← HW2.out]) | fail)
  clear hbp0
  refine (refOptR_any g r2 _ hQ1.1).mono ?_
  rintro e v3 ⟨he, hQ⟩
  obtain ⟨x3, hx3⟩ : ∃ x, x = rOpt r2 := ⟨_, rfl⟩
  rw [← hx3] at he hQ
  have HX3 := Lib.hid hx3.symm
  clear hx3
  subst he
  obtain ⟨a3, r3⟩ := x3
  simp only at hQ
  have hbr' := Blk.farCells (g := w.heap.size) (b := w.heap.size + 1) (by omega) (optV a3) 6 _ (hQ.keeps hbr hne)
  have hbp0 := hQ.keeps hbp hne1
  have hbp' := hbp0.sets (optV a3) _ 6
  rw [show setAt _ 6 (optV a3) = (setOpt (setOpt (setOpt (setOpt settZ (optOf a0) 0) (optOf a1) 1) (optOf a2) 2) (optOf a3) 3).vals from rfl] at hbp'
  have hq := hQ1.trans hQ
  have hQ' : ReadsF g r3 w (v3.setCells (w.heap.size + 1) 6 (optV a3)) := ⟨hq.1.touch (Touch.setCells (F := fun i => i = w.heap.size + 1) (.inl rfl) _ 6 v3 (Touch.refl _ _)) (fun hh => hne1 hh.symm), Touch.setCells (.inr (by omega)) _ 6 v3 hq.2⟩
  obtain ⟨W3, hW3⟩ : ∃ W, W = v3.setCells (w.heap.size + 1) 6 (optV a3) := ⟨_, rfl⟩
  rw [← hW3] at hbr' hbp' hQ'
  have HW3 := Lib.hid hW3
  clear hbr hbp hQ1 hQ hq hW3
  have hbr := hbr'
  have hbp := hbp'
  have hQ1 := hQ'
  clear hbr' hbp' hQ'
  go_wp2_with (first | (refine wpList_store_part (by rfl) 32 _ _ (by rfl) (w.heap.size + 1) 6 (optV a3) _ hbp0 (by simp [Sett.len, optV]) (by rfl) (by rfl) (by kernel_rfl) (optV_one _) ?_; rw [← HW3.out]) | fail)
  clear hbp0
  refine (refOptR_any g r3 _ hQ1.1).mono ?_
  rintro e v4 ⟨he, hQ⟩
  obtain ⟨x4, hx4⟩ : ∃ x, x = rOpt r3 := ⟨_, rfl⟩
  rw [← hx4] at he hQ
  have HX4 := Lib.hid hx4.symm
  clear hx4
  subst he
  obtain ⟨a4, r4⟩ := x4
  simp only at hQ
  have hbr' := Blk.farCells (g := w.heap.size) (b := w.heap.size + 1) (by omega) (optV a4) 8 _ (hQ.keeps hbr hne)
  have hbp0 := hQ.keeps hbp hne1
  have hbp' := hbp0.sets (optV a4) _ 8
  rw [show setAt _ 8 (optV a4) = (setOpt (setOpt (setOpt (setOpt (setOpt settZ (optOf a0) 0) (optOf a1) 1) (optOf a2) 2) (optOf a3) 3) (optOf a4) 4).vals from rfl] at hbp'
  have hq := hQ1.trans hQ
  have hQ' : ReadsF g r4 w (v4.setCells (w.heap.size + 1) 8 (optV a4)) := ⟨hq.1.touch (Touch.setCells (F := fun i => i = w.heap.size + 1) (.inl rfl) _ 8 v4 (Touch.refl _ _)) (fun hh => hne1 hh.symm), Touch.setCells (.inr (by omega)) _ 8 v4 hq.2⟩
  obtain ⟨W4, hW4⟩ : ∃ W, W = v4.setCells (w.heap.size + 1) 8 (optV a4) := ⟨_, rfl⟩
  rw [← hW4] at hbr' hbp' hQ'
  have HW4 := Lib.hid hW4
  clear hbr hbp hQ1 hQ hq hW4
  have hbr := hbr'
  have hbp := hbp'
  have hQ1 := hQ'
  clear hbr' hbp' hQ'
  go_upto_region 7 with (first | (refine wpList_store_part (by rfl) 32 _ _ (by rfl) (w.heap.size + 1) 8 (optV a4) _ hbp0 (by simp [Sett.len, optV]) (by rfl) (by rfl) (by kernel_rfl) (optV_one _) ?_; rw [← HW4.out]) | fail)
  clear hbp0
  have HX := Lib.hid (show rSett r = ((setOpt (setOpt (setOpt (setOpt (setOpt settZ (optOf a0) 0) (optOf a1) 1) (optOf a2) 2) (optOf a3) 3) (optOf a4) 4), r4) by simp only [rSett, settK, HX0.out, HX1.out, HX2.out, HX3.out, HX4.out])
  clear HX0 HX1 HX2 HX3 HX4 HW0 HW1 HW2 HW3
  obtain ⟨cv, hcv⟩ : ∃ c, c = (setOpt (setOpt (setOpt (setOpt (setOpt settZ (optOf a0) 0) (optOf a1) 1) (optOf a2) 2) (optOf a3) 3) (optOf a4) 4) := ⟨_, rfl⟩
  rw [← hcv] at HX hbp
  clear hcv
  have hEc := ReadsF.err hQ1.1
  have rp : rowOf W4 (w.heap.size + 1) 0 10 = some cv.vals.toArray := hbp.row 0 10 (by simp [Sett.len])
  by_cases hE : r4.e = 0
  · have hE' : (r4.e != 0) = false := by simpa using hE
    have HE := Lib.hid hE
    clear hE
    go_wp2_with fail
    refine (refSet_any cv _).mono ?_
    rintro e w7 ⟨rfl, hb⟩
    have hs := Stb.of hb
    have hlp := hbp.lt
    have hb7 := hbr.stays hb
    have hQ7 := hQ1.new hb
    clear hb hQ1
    cases ho : cv.ok
    · have HN := Lib.hid (show gotR Sett.ok settZ (cv, r4) = (settZ, 14) by simp [gotR, HE.out, ho])
      have HQ := Lib.hid (ReadsF.lay (cs := settZ.vals) hQ7 hb7 rfl hne (Nat.le_refl _))
      clear ho hQ7
      go_wp2_with (first | (refine wpList_store_whole (by rfl) 34 _ _ (by rfl) w.heap.size settZ.vals _ hb7 (by rfl) (by rfl) (by rfl) (by kernel_rfl) (Sett.one _) ?_) | fail)
      refine ret_cells2 w.heap.size 0 settZ.vals (.int .i64 14) Tryz.results57 Tryz.underlying34 rfl (by kernel_rfl) rfl rfl HQ.out.2.range rfl ?_
      rw [HX.out, HN.out]
      exact ⟨rfl, HQ.out.1⟩
    · have HN := Lib.hid (show gotR Sett.ok settZ (cv, r4) = (cv, 0) by simp [gotR, HE.out, ho])
      have HQ := Lib.hid (ReadsF.lay (cs := cv.vals) hQ7 hb7 rfl hne (Nat.le_refl _))
      clear ho hQ7
      go_wp2_with (first | (refine wpList_store_whole (by rfl) 34 _ _ (by rfl) w.heap.size cv.vals _ hb7 (by rfl) (by rfl) (by rfl) (by kernel_rfl) (Sett.one _) ?_) | fail)
      refine ret_cells2 w.heap.size 0 cv.vals (.int .i64 0) Tryz.results57 Tryz.underlying34 rfl (by kernel_rfl) rfl rfl HQ.out.2.range rfl ?_
      rw [HX.out, HN.out]
      exact ⟨rfl, HQ.out.1⟩
  · have hE' : (r4.e != 0) = true := by simpa using hE
    have HN := Lib.hid (show gotR Sett.ok settZ (cv, r4) = (settZ, r4.e) by simp [gotR, hE])
    have hc := hbr.cell
    have hf := hbr.frozen
    have HQ := Lib.hid (ReadsF.lay (cs := settZ.vals) hQ1 hbr rfl hne (Nat.le_refl _))
    clear hE hQ1
    go_wp2
    go_region
    change Exit.then _ _ _ _ ((W4.setCells w.heap.size 0 settZ.vals).drew)
    go_wp2
    refine ret_cells2 w.heap.size 0 settZ.vals (.int .i64 r4.e) Tryz.results57 Tryz.underlying34 rfl (by kernel_rfl) rfl rfl HQ.out.2.drew.range rfl ?_
    rw [HX.out, HN.out]
    exact ⟨rfl, HQ.out.1.drew⟩

end Go.Proofs.YtfjflkmhhbhceaaGreatDoor


/-
  Layer 5, walks: attributes are laid. Conditions: they may be; at most 2^39 bytes so far.
-/
namespace Go.Proofs.YtfjflkmhhbhceaaGreatDoor
open Go.RowKit
attribute [local go_sem ↓] Go.wp_at_zero Go.wp_at_succ
attribute [local go_sem] rowAt_ptr rowOf_drew rowOf_drewN rowOf_alloc_past rowOf_new
attribute [local go_sem] Attr.at0 Attr.lat0 Attr.at1 Attr.lat1 Attr.at2 Attr.lat2 Attr.at3 Attr.lat3 Attr.at4 Attr.lat4 Attr.at5 Attr.lat5 Attr.at6 Attr.lat6 Attr.at7 Attr.lat7 Attr.at8 Attr.lat8 Attr.at9 Attr.lat9 Attr.sub0_10 Attr.lsub0_10 Attr.len Opt.at0 Opt.lat0 Opt.at1 Opt.lat1 Opt.sub0_2 Opt.lsub0_2 Opt.len Post.at0 Post.lat0 Post.at1 Post.lat1 Post.at2 Post.lat2 Post.at3 Post.lat3 Post.at4 Post.lat4 Post.at5 Post.lat5 Post.at6 Post.lat6 Post.at7 Post.lat7 Post.at8 Post.lat8 Post.at9 Post.lat9 Post.at10 Post.lat10 Post.sub0_11 Post.lsub0_11 Post.sub1_10 Post.lsub1_10 Post.len Wcc.at0 Wcc.lat0 Wcc.at1 Wcc.lat1 Wcc.at2 Wcc.lat2 Wcc.at3 Wcc.lat3 Wcc.at4 Wcc.lat4 Wcc.at5 Wcc.lat5 Wcc.at6 Wcc.lat6 Wcc.at7 Wcc.lat7 Wcc.at8 Wcc.lat8 Wcc.at9 Wcc.lat9 Wcc.at10 Wcc.lat10 Wcc.at11 Wcc.lat11 Wcc.at12 Wcc.lat12 Wcc.sub0_13 Wcc.lsub0_13 Wcc.sub0_2 Wcc.lsub0_2 Wcc.sub2_11 Wcc.lsub2_11 Wcc.sub3_10 Wcc.lsub3_10 Wcc.len

def Attr.bytes (a : Attr) : List UInt8 :=
  num a.type.toNat 4 ++ num a.mode.toNat 4 ++ num a.nlink.toNat 4 ++ num a.uid.toNat 4 ++ num a.gid.toNat 4 ++ num a.size.toNat 8 ++ num a.id.toNat 4 ++ num a.gen.toNat 8 ++ num a.change.toNat 8 ++ num a.time.toNat 8
theorem Attr.bytes_len (a : Attr) : a.bytes.length = 56 := by simp [Attr.bytes, num_len]
theorem Attr.nats {a : Attr} (h : a.ok = true) (hg : a.good) : ∃ t m k u g s i n c z : Nat, a = ⟨t, m, k, u, g, s, i, n, c, z⟩ ∧ (∀ x ∈ [t, m, k, u, g, i], x < 4294967296) ∧ ∀ x ∈ [s, n, c, z], (x : Int) ≤ 9223372036854775807 := by
  obtain ⟨t, m, k, u, g, s, i, n, c, z⟩ := a
  simp only [Attr.ok, okN, Bool.and_eq_true, decide_eq_true_eq] at h
  obtain ⟨g0, g1, g2, g3, g4, g5, g6, g7, g8, g9⟩ := hg
  have g5 := Go.bounds_i64 g5
  have g7 := Go.bounds_i64 g7
  have g8 := Go.bounds_i64 g8
  have g9 := Go.bounds_i64 g9
  simp only at h g5 g7 g8 g9
  refine ⟨t.toNat, m.toNat, k.toNat, u.toNat, g.toNat, s.toNat, i.toNat, n.toNat, c.toNat, z.toNat, ?_, ?_, ?_⟩
  · simp only [Attr.mk.injEq]; omega
  · intro x hx
    simp only [List.mem_cons, List.not_mem_nil, or_false] at hx
    omega
  · intro x hx
    simp only [List.mem_cons, List.not_mem_nil, or_false] at hx
    omega

end Go.Proofs.YtfjflkmhhbhceaaGreatDoor


/-
  Layer 5, walks: attributes or none, and what was ahead of a call and behind it, are laid or refused. Conditions: at most 2^39 bytes so far.
-/
namespace Go.Proofs.YtfjflkmhhbhceaaGreatDoor
open Go.RowKit
attribute [local go_sem ↓] Go.wp_at_zero Go.wp_at_succ
attribute [local go_sem] rowAt_ptr rowOf_drew rowOf_drewN rowOf_alloc_past rowOf_new
attribute [local go_sem ↓] ldAttrR ldOpt ldSet ldPost ldWcc

attribute [local go_sem] Attr.at0 Attr.lat0 Attr.at1 Attr.lat1 Attr.at2 Attr.lat2 Attr.at3 Attr.lat3 Attr.at4 Attr.lat4 Attr.at5 Attr.lat5 Attr.at6 Attr.lat6 Attr.at7 Attr.lat7 Attr.at8 Attr.lat8 Attr.at9 Attr.lat9 Attr.sub0_10 Attr.lsub0_10 Attr.len Opt.at0 Opt.lat0 Opt.at1 Opt.lat1 Opt.sub0_2 Opt.lsub0_2 Opt.len Post.at0 Post.lat0 Post.at1 Post.lat1 Post.at2 Post.lat2 Post.at3 Post.lat3 Post.at4 Post.lat4 Post.at5 Post.lat5 Post.at6 Post.lat6 Post.at7 Post.lat7 Post.at8 Post.lat8 Post.at9 Post.lat9 Post.at10 Post.lat10 Post.sub0_11 Post.lsub0_11 Post.sub1_10 Post.lsub1_10 Post.len Wcc.at0 Wcc.lat0 Wcc.at1 Wcc.lat1 Wcc.at2 Wcc.lat2 Wcc.at3 Wcc.lat3 Wcc.at4 Wcc.lat4 Wcc.at5 Wcc.lat5 Wcc.at6 Wcc.lat6 Wcc.at7 Wcc.lat7 Wcc.at8 Wcc.lat8 Wcc.at9 Wcc.lat9 Wcc.at10 Wcc.lat10 Wcc.at11 Wcc.lat11 Wcc.at12 Wcc.lat12 Wcc.sub0_13 Wcc.lsub0_13 Wcc.sub0_2 Wcc.lsub0_2 Wcc.sub2_11 Wcc.lsub2_11 Wcc.sub3_10 Wcc.lsub3_10 Wcc.len

def Post.bytes (p : Post) : List UInt8 := truth p.is ++ (if p.is then p.attr.bytes else [])
def Wcc.bytes (c : Wcc) : List UInt8 := c.before.bytes ++ c.after.bytes
theorem Post.bytes_len (p : Post) : p.bytes.length ≤ 60 := by
  unfold Post.bytes; cases p.is <;> simp [truth, num_len, Attr.bytes_len]
theorem Wcc.bytes_len (c : Wcc) : c.bytes.length ≤ 72 := by
  have := c.after.bytes_len
  have := c.before.bytes_len
  simp only [Wcc.bytes, List.length_append]; omega

end Go.Proofs.YtfjflkmhhbhceaaGreatDoor


/-
  Layer 5, walks of the document's own: the bytes of attributes, of what is told of a node, of what was and is; and that what is read, laid once more, is the bytes. Conditions: what is laid may be.
-/
namespace Go.Proofs.YtfjflkmhhbhceaaGreatDoor
open Go.RowKit
attribute [local go_sem ↓] Go.wp_at_zero Go.wp_at_succ
attribute [local go_sem] rowAt_ptr rowOf_drew rowOf_drewN rowOf_alloc_past rowOf_new
attribute [local go_sem ↓] ldAttrR ldOpt ldPost

attribute [local go_sem] Attr.at0 Attr.lat0 Attr.at1 Attr.lat1 Attr.at2 Attr.lat2 Attr.at3 Attr.lat3 Attr.at4 Attr.lat4 Attr.at5 Attr.lat5 Attr.at6 Attr.lat6 Attr.at7 Attr.lat7 Attr.at8 Attr.lat8 Attr.at9 Attr.lat9 Attr.sub0_10 Attr.lsub0_10 Attr.len Post.at0 Post.lat0 Post.at1 Post.lat1 Post.at2 Post.lat2 Post.at3 Post.lat3 Post.at4 Post.lat4 Post.at5 Post.lat5 Post.at6 Post.lat6 Post.at7 Post.lat7 Post.at8 Post.lat8 Post.at9 Post.lat9 Post.at10 Post.lat10 Post.sub0_11 Post.lsub0_11 Post.sub1_10 Post.lsub1_10 Post.len Wcc.at0 Wcc.lat0 Wcc.at1 Wcc.lat1 Wcc.at2 Wcc.lat2 Wcc.at3 Wcc.lat3 Wcc.at4 Wcc.lat4 Wcc.at5 Wcc.lat5 Wcc.at6 Wcc.lat6 Wcc.at7 Wcc.lat7 Wcc.at8 Wcc.lat8 Wcc.at9 Wcc.lat9 Wcc.at10 Wcc.lat10 Wcc.at11 Wcc.lat11 Wcc.at12 Wcc.lat12 Wcc.sub0_13 Wcc.lsub0_13 Wcc.sub0_2 Wcc.lsub0_2 Wcc.sub2_11 Wcc.lsub2_11 Wcc.sub3_10 Wcc.lsub3_10 Wcc.len Opt.at0 Opt.lat0 Opt.at1 Opt.lat1 Opt.sub0_2 Opt.lsub0_2 Opt.len

section
attribute [local go_sem ↓] add_bs

attribute [local go_sem] num_len List.length_append

set_option maxRecDepth 20000 in
set_option maxHeartbeats 3200000 in
theorem attrBytes8_nat (t m k u g s i n c z : Nat) (w : World) (h4 : ∀ x ∈ [t, m, k, u, g, i], x < 4294967296) (h8 : ∀ x ∈ [s, n, c, z], (x : Int) ≤ 9223372036854775807) :
    Calls Tryz.prog 116 #[.agg (Attr.mk t m k u g s i n c z).vals.toArray] w fun e w' => e = .returned (.string (bs (Attr.mk t m k u g s i n c z).bytes)) ∧ Below w.heap.size w w' := by
  have HF := Lib.hid (show (Attr.mk t m k u g s i n c z).bytes = num t 4 ++ num m 4 ++ num k 4 ++ num u 4 ++ num g 4 ++ num s 8 ++ num i 4 ++ num n 8 ++ num c 8 ++ num z 8 by simp only [Attr.bytes, Int.toNat_natCast])
  simp only [List.mem_cons, List.not_mem_nil, or_false, forall_eq_or_imp, forall_eq] at h4 h8
  obtain ⟨b1, b2, b3, b4, b5, b6⟩ := h4
  obtain ⟨c1, c2, c3, c4⟩ := h8
  have d1 : (t : Int) ≤ 9223372036854775807 := by omega
  have d2 : (m : Int) ≤ 9223372036854775807 := by omega
  have d3 : (k : Int) ≤ 9223372036854775807 := by omega
  have d4 : (u : Int) ≤ 9223372036854775807 := by omega
  have d5 : (g : Int) ≤ 9223372036854775807 := by omega
  have d6 : (i : Int) ≤ 9223372036854775807 := by omega
  clear b1 b2 b3 b4 b5 b6
  have hb := Blk.new w 43 (Attr.mk t m k u g s i n c z).vals
  have hB0 : Below w.heap.size w (w.alloc (.cells (Attr.mk t m k u g s i n c z).vals.toArray 43)) := (Below.refl _ _).alloc (Nat.le_refl _) _
  have hcx := hb.cell
  have hlt := hb.lt
  clear hb
  go_enter Tryz.func116, Tryz.ntmps116
  go_wp2_with fail
  generalize w.alloc (.cells (Attr.mk t m k u g s i n c z).vals.toArray 43) = w1 at *
  go_region_held3 (fun W => Stb w1 W) (first | exact Stb.start | assumption | (exact Stb.alloc (by assumption) _) | (exact Stb.call (by assumption) (by assumption))) (first
    | (go_at_call_of 60 (t); refine (refNum_any t 4 _ (by assumption) (by decide)).mono ?_; rintro e w2 ⟨rfl, hb⟩)
    | (go_at_call_of 60 (m); refine (refNum_any m 4 _ (by assumption) (by decide)).mono ?_; rintro e w2 ⟨rfl, hb⟩)
    | (go_at_call_of 60 (k); refine (refNum_any k 4 _ (by assumption) (by decide)).mono ?_; rintro e w2 ⟨rfl, hb⟩)
    | (go_at_call_of 60 (u); refine (refNum_any u 4 _ (by assumption) (by decide)).mono ?_; rintro e w2 ⟨rfl, hb⟩)
    | (go_at_call_of 60 (g); refine (refNum_any g 4 _ (by assumption) (by decide)).mono ?_; rintro e w2 ⟨rfl, hb⟩)
    | (go_at_call_of 60 (s); refine (refNum_any s 8 _ (by assumption) (by decide)).mono ?_; rintro e w2 ⟨rfl, hb⟩)
    | (go_at_call_of 60 (i); refine (refNum_any i 4 _ (by assumption) (by decide)).mono ?_; rintro e w2 ⟨rfl, hb⟩)
    | (go_at_call_of 60 (n); refine (refNum_any n 8 _ (by assumption) (by decide)).mono ?_; rintro e w2 ⟨rfl, hb⟩)
    | (go_at_call_of 60 (c); refine (refNum_any c 8 _ (by assumption) (by decide)).mono ?_; rintro e w2 ⟨rfl, hb⟩)
    | (go_at_call_of 60 (z); refine (refNum_any z 8 _ (by assumption) (by decide)).mono ?_; rintro e w2 ⟨rfl, hb⟩)
    | fail)
  have hs5 : Stb w1 w2 := by assumption
  have HB := Lib.hid (below_then hB0 hs5.below)
  clear hs5
  go_wp2
  go_ret
  exact ⟨ret_string (by rw [HF.out]; simp only [List.append_assoc]), HB.out⟩
end
theorem attrBytes8_any (x : Attr) (w : World) (hok : x.ok = true) (hg : x.good) : Calls Tryz.prog 116 #[.agg x.vals.toArray] w fun e w' => e = .returned (.string (bs x.bytes)) ∧ Below w.heap.size w w' := by
  obtain ⟨t, m, k, u, g, s, i, n, c, z, rfl, h1, h2⟩ := Attr.nats hok hg
  exact attrBytes8_nat t m k u g s i n c z w h1 h2

set_option maxHeartbeats 800000 in
theorem postBytes8_any (p : Post) (w : World) (hok : p.ok = true) (hg : p.good) : Calls Tryz.prog 69 #[.agg p.vals.toArray] w fun e w' => e = .returned (.string (bs p.bytes)) ∧ Below w.heap.size w w' := by
  have hb0 := Blk.new w 45 p.vals
  have hB0 : Below w.heap.size w (w.alloc (.cells p.vals.toArray 45)) := (Below.refl _ _).alloc (Nat.le_refl _) _
  have hca := hb0.cell
  have HO := Lib.hid hok
  clear hok
  go_enter Tryz.func69, Tryz.ntmps69
  cases hi : p.is
  · have HF := Lib.hid (show truth false = p.bytes by simp [Post.bytes, hi])
    go_wp2_with fail
    refine (refTruth_any _ _).mono ?_
    rintro e w1 ⟨rfl, hb1⟩
    go_wp2
    go_ret
    exact ⟨ret_string HF.out, below_then hB0 hb1⟩
  · have HF := Lib.hid (show truth true ++ p.attr.bytes = p.bytes by simp [Post.bytes, hi])
    have hao : p.attr.ok = true := by have := HO.out; simpa [Post.ok, hi] using this
    go_wp2_with fail
    generalize hw : w.alloc (.cells p.vals.toArray 45) = w1 at *
    have r0 : rowOf w1 w.heap.size 1 10 = some p.attr.vals.toArray := hb0.row 1 10 (by simp [Post.len])
    have hl1 : (truth true).length = 4 := by simp [truth, num_len]
    have hl2 := p.attr.bytes_len
    have hlt := hb0.lt
    go_region_held3 (fun W => Stb w1 W) (first | exact Stb.start | assumption | (exact Stb.alloc (by assumption) _) | (exact Stb.call (by assumption) (by assumption))) (first
      | (go_at_call 71; refine (refTruth_any _ _).mono ?_; rintro e w2 ⟨rfl, hb⟩)
      | (go_at_call 116; refine (attrBytes8_any _ _ (by assumption) (by assumption)).mono ?_; rintro e w2 ⟨rfl, hb⟩)
      | fail)
    have hs5 : Stb w1 w2 := by assumption
    have HB := Lib.hid (below_then hB0 hs5.below)
    clear hs5
    go_wp2
    go_ret
    exact ⟨ret_string (by rw [HF.out]), HB.out⟩

set_option maxHeartbeats 800000 in
theorem wccBytes8_any (c : Wcc) (w : World) (hok : c.ok = true) (hg : c.good) : Calls Tryz.prog 70 #[.agg c.vals.toArray] w fun e w' => e = .returned (.string (bs c.bytes)) ∧ Below w.heap.size w w' := by
  have hb0 := Blk.new w 47 c.vals
  have hB0 : Below w.heap.size w (w.alloc (.cells c.vals.toArray 47)) := (Below.refl _ _).alloc (Nat.le_refl _) _
  have ho1 : c.before.ok 9223372036854775807 = true := by unfold Wcc.ok at hok; simp at hok; exact hok.1
  have ho2 : c.after.ok = true := by unfold Wcc.ok at hok; simp at hok; exact hok.2
  have hp := Opt.ok_pos ho1
  have hm := (Go.bounds_i64 hg.1).2
  have HF := Lib.hid (show c.before.bytes ++ c.after.bytes = c.bytes from rfl)
  clear hok
  go_enter Tryz.func70, Tryz.ntmps70
  go_wp2_with fail
  generalize hw : w.alloc (.cells c.vals.toArray 47) = w1 at *
  have r0 : rowOf w1 w.heap.size 0 2 = some c.before.vals.toArray := hb0.row 0 2 (by simp [Wcc.len])
  have r1 : rowOf w1 w.heap.size 2 11 = some c.after.vals.toArray := hb0.row 2 11 (by simp [Wcc.len])
  have hl1 := c.before.bytes_len
  have hl2 := c.after.bytes_len
  have hl3 : ¬ 9223372036854775807 < c.before.bytes.length + c.after.bytes.length := by omega
  have hlt := hb0.lt
  go_region_held3 (fun W => Stb w1 W) (first | exact Stb.start | assumption | (exact Stb.alloc (by assumption) _) | (exact Stb.call (by assumption) (by assumption))) (first
    | (go_at_call 117; refine (refOptO_any _ _ (by assumption) (by assumption)).mono ?_; rintro e w2 ⟨rfl, hb⟩)
    | (go_at_call 69; refine (postBytes8_any _ _ (by assumption) (by exact hg.2)).mono ?_; rintro e w2 ⟨rfl, hb⟩)
    | fail)
  have hs5 : Stb w1 w2 := by assumption
  have HB := Lib.hid (below_then hB0 hs5.below)
  clear hs5
  go_wp2
  go_ret
  exact ⟨ret_string (by rw [HF.out]), HB.out⟩
end Go.Proofs.YtfjflkmhhbhceaaGreatDoor
