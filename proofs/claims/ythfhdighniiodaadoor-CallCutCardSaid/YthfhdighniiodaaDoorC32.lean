/-
  Layer 7, walks: a call's bytes. Conditions: the call's numbers are machine numbers.
-/
import Derived.Test.YthfhdighniiodaaDoorC24
import Derived.Test.YthfhdighniiodaaDoorC08
namespace Go.Proofs.YthfhdighniiodaaDoor
open Go.RowKit
attribute [local go_sem ↓] Go.wp_at_zero Go.wp_at_succ
attribute [local go_sem] rowAt_ptr rowOf_drew rowOf_drewN rowOf_alloc_past rowOf_new
attribute [local go_sem ↓] ldSet ldOpt ldCall

attribute [local go_sem] Call.at0 Call.lat0 Call.at1 Call.lat1 Call.at2 Call.lat2 Call.at3 Call.lat3 Call.at4 Call.lat4 Call.at5 Call.lat5 Call.at6 Call.lat6 Call.at7 Call.lat7 Call.at8 Call.lat8 Call.at9 Call.lat9 Call.at10 Call.lat10 Call.at11 Call.lat11 Call.at12 Call.lat12 Call.at13 Call.lat13 Call.at14 Call.lat14 Call.at15 Call.lat15 Call.at16 Call.lat16 Call.at17 Call.lat17 Call.at18 Call.lat18 Call.at19 Call.lat19 Call.at20 Call.lat20 Call.at21 Call.lat21 Call.at22 Call.lat22 Call.at23 Call.lat23 Call.sub0_24 Call.lsub0_24 Call.sub9_10 Call.lsub9_10 Call.sub9_2 Call.lsub9_2 Call.sub11_2 Call.lsub11_2 Call.sub13_2 Call.lsub13_2 Call.sub15_2 Call.lsub15_2 Call.sub17_2 Call.lsub17_2 Call.sub19_2 Call.lsub19_2 Call.len Sett.at0 Sett.lat0 Sett.at1 Sett.lat1 Sett.at2 Sett.lat2 Sett.at3 Sett.lat3 Sett.at4 Sett.lat4 Sett.at5 Sett.lat5 Sett.at6 Sett.lat6 Sett.at7 Sett.lat7 Sett.at8 Sett.lat8 Sett.at9 Sett.lat9 Sett.sub0_10 Sett.lsub0_10 Sett.sub0_2 Sett.lsub0_2 Sett.sub2_2 Sett.lsub2_2 Sett.sub4_2 Sett.lsub4_2 Sett.sub6_2 Sett.lsub6_2 Sett.sub8_2 Sett.lsub8_2 Sett.len Opt.at0 Opt.lat0 Opt.at1 Opt.lat1 Opt.sub0_2 Opt.lsub0_2 Opt.len

set_option maxRecDepth 20000 in
set_option maxHeartbeats 400000 in
theorem put7_any (x : Call) (w : World) (hgo : x.offset ≤ 9223372036854775807) (hgk : x.cookie ≤ 9223372036854775807) (hgv : x.verf ≤ 9223372036854775807) (hgs : x.set.good) (hgg : x.guard.n ≤ 9223372036854775807) :
    Calls Tryd.prog 29 #[.agg x.vals.toArray] w fun e w' => e = .returned (.tuple #[.string (bs (cPut x).1), .int .i64 (cPut x).2]) ∧ Below w.heap.size w w' := by
  have hb := Blk.new w 57 x.vals
  have hB : Below w.heap.size w (w.alloc (.cells x.vals.toArray 57)) := (Below.refl _ _).alloc (Nat.le_refl _) _
  have rX : rowOf (w.alloc (.cells x.vals.toArray 57)) w.heap.size 0 24 = some x.vals.toArray := hb.row 0 24 (by simp [Call.len])
  have hcf : ∀ args W, (callFunc 71 args).run Tryd.prog W = .ok (.enter 71 args) W := fun args W => by kernel_rfl
  by_cases hck : cCheck x = 0
  · have HS := Lib.hid (show cPut x = (cLaid x (cFields x.proc) (cFields x.proc).length, 0) by simp [cPut, hck])
    have hma := cCheck_fine hck
    go_enter Tryd.func29, Tryd.ntmps29
    go_wp2_with fail
    refine (check7_any x _).mono ?_
    rintro e w1 ⟨rfl, hb1⟩
    rw [hck]
    have hX := hb.stays hb1
    have hB1 := below_then hB hb1
    clear rX hb hB
    have hW := Wr.fresh w1
    have hX2 := hX.alloc (.cells #[.slice none 0 0] 87)
    have hB2 := hB1.alloc hB1.size (.cells #[.slice none 0 0] 87)
    have hs2 : (w1.alloc (.cells #[.slice none 0 0] 87)).heap.size = w1.heap.size + 1 := by simp
    have hW3 := hW.alloc (.cells #[ptr w1.heap.size] 84)
    have hX3 := hX2.alloc (.cells #[ptr w1.heap.size] 84)
    have hB3 := hB2.alloc hB2.size (.cells #[ptr w1.heap.size] 84)
    have hH3 := Blk.new (w1.alloc (.cells #[.slice none 0 0] 87)) 84 [ptr w1.heap.size]
    rw [hs2] at hH3
    have hlt : w.heap.size < w1.heap.size := Nat.lt_of_lt_of_le (by simp) hb1.size
    have hcX := hX.cell
    have HX := Lib.hid hX3
    have HW3 := Lib.hid hW3
    have HB := Lib.hid hB3
    have HH3 := Lib.hid hH3
    clear hX3 hW3 hB3 hH3 hX2 hB2 hs2 hW hX hB1 hb1
    go_wp2_with fail
    have hl := fun k (hk : k < (cFields x.proc).length) => cFields_letter x.proc hk
    have hlen := cLaid_len x (cFields x.proc) hma hl
    have hsh := cFields_short x.proc
    change Calls _ _ #[_, .func (.func _) #[] [ptr (w1.heap.size + 1), ptr w.heap.size].toArray] _ _
    refine (each_any x.proc 71 [ptr (w1.heap.size + 1), ptr w.heap.size] _ (fun _ => true) (Laying w w1.heap.size (w1.heap.size + 1) w.heap.size x (cFields x.proc)) hcf ?_ ?_ ?_).mono ?_
    · exact fun W h => ⟨⟨.slice none 0 0, HW3.out.stays h, by simp [Value.ownBlock]⟩, HH3.out.stays h, HX.out.stays h, below_then HB.out h⟩
    · exact fun k W b l pos pos' hb h hI => by
        obtain ⟨⟨sv, hW, hrow⟩, hH, hX, hB⟩ := h
        refine ⟨⟨sv, ?_, hrow⟩, hH.farIter (hH.ne_itr hI) _ _, hX.farIter (hX.ne_itr hI) _ _, Below.setIter hB (Nat.le_trans HB.out.size hb) _ _⟩
        exact hW.touch ((Touch.refl (fun k => k = b) W).setIter (.inl rfl) _ _) fun k hf e => hW.foot_ne_itr hI (e ▸ hf)
    · intro k hk W hS
      exact put1_any w _ _ _ (Nat.le_of_lt hlt) x _ k hk (hl k hk) (by
        rw [cMayAll, List.all_eq_true] at hma
        exact hma _ (List.getElem_mem hk)) hgo hgk hgv hgs hgg (by have := hlen k (Nat.le_of_lt hk); omega) W hS
    · rintro e w5 ⟨m, hS, hcase⟩
      rcases hcase with ⟨rfl, hall, rfl⟩ | ⟨j, rfl, hj, hok, hbad, rfl⟩
      · obtain ⟨⟨sv, hW, hrow⟩, hH, hX, hB⟩ := hS
        have hcH := hH.cell
        clear hX hcX hlen hl hma hH HX HW3 HB HH3 hall hsh
        generalize cLaid x (cFields x.proc) (cFields x.proc).length = l at *
        go_wp2_with fail
        refine (wText_any _ sv _ _ hW).mono ?_
        rintro e w6 ⟨rfl, rfl⟩
        go_wp2
        go_ret2
        rw [HS.out]
        exact ⟨rfl, hB⟩
      · cases hbad
  · have HS := Lib.hid (show cPut x = ([], cCheck x) by simp [cPut, hck])
    have h1 : ((cCheck x != 0) = true) := by simpa using hck
    have hc6 := fun W => check7_any x W
    generalize cCheck x = n at *
    go_enter Tryd.func29, Tryd.ntmps29
    go_wp2_with fail
    refine (hc6 _).mono ?_
    rintro e w1 ⟨rfl, hb1⟩
    go_wp2
    go_ret2
    rw [HS.out]
    exact ⟨rfl, below_then hB hb1⟩
end Go.Proofs.YthfhdighniiodaaDoor

/-
  Layer 7, walks: what must come of fixed calls; the law CallFields. No condition.
-/
namespace Go.Proofs.YthfhdighniiodaaDoor
open Go.RowKit
attribute [local go_sem ↓] Go.wp_at_zero Go.wp_at_succ
attribute [local go_sem] rowAt_ptr rowOf_drew rowOf_drewN rowOf_alloc_past rowOf_new

def knownCall : Call := ⟨3, [104], [97], [], [], 0, 0, 0, [], ⟨⟨false, 0⟩, ⟨false, 0⟩, ⟨false, 0⟩, ⟨false, 0⟩, ⟨false, 0⟩⟩, ⟨false, 0⟩, 0, 0, []⟩
theorem cPut_known : cPut knownCall = ([0, 0, 0, 1, 104, 0, 0, 0, 0, 0, 0, 1, 97, 0, 0, 0], 0) := by kernel_rfl
theorem cFields_write : cFields 7 = [102, 111, 104, 100] := by kernel_rfl

set_option maxHeartbeats 400000 in
theorem known7_any (w : World) : Calls Tryd.prog 28 #[] w fun e w' => e = .returned (.bool true) ∧ Below w.heap.size w w' := by
  have hp := fun w => put7_any knownCall w (by decide) (by decide) (by decide) ⟨rfl, rfl, rfl, rfl, rfl⟩ (by decide)
  rw [cPut_known] at hp
  have hf := fun w => callFields_any 7 w
  rw [cFields_write] at hf
  go_enter Tryd.func28, Tryd.ntmps28
  go_wp2_with fail
  refine (hp _).mono ?_
  rintro e w1 ⟨rfl, hb1⟩
  go_wp2_with fail
  refine (hf _).mono ?_
  rintro e w2 ⟨rfl, hb2⟩
  go_wp2
  go_ret
  exact ⟨rfl, below_then hb1 hb2⟩

end Go.Proofs.YthfhdighniiodaaDoor


/-
  Layer 5, walks: the bytes of what is to be set. No condition.
-/
namespace Go.Proofs.YthfhdighniiodaaDoor
open Go.RowKit
attribute [local go_sem ↓] Go.wp_at_zero Go.wp_at_succ ldOpt ldSet

attribute [local go_sem] rowAt_ptr rowOf_drew rowOf_drewN

theorem add_bs (a b : List UInt8) (h : a.length + b.length ≤ 9223372036854775807) : Op.stringOp .add (bs a) (bs b) = pure (.string (bs (a ++ b))) := by
  have h2 : ¬ (((bs a).size + (bs b).size : Nat) : Int) > IntKind.i64.max := by
    rw [bs_size, bs_size]
    show ¬ (((a.length + b.length : Nat) : Int) > 9223372036854775807)
    omega
  simp only [Op.stringOp]
  rw [if_neg h2, bs_append]
attribute [local go_sem ↓] add_bs

set_option maxHeartbeats 3200000 in
theorem setBytes_any (s : Sett) (w : World) (hs : s.ok = true) (hg : s.good) :
    Calls Tryd.prog 81 #[.agg s.vals.toArray] w fun e w' => e = .returned (.string (bs s.bytes)) ∧ Below w.heap.size w w' := by
  have hb0 := Blk.new w 55 s.vals
  have hB0 : Below w.heap.size w (w.alloc (.cells s.vals.toArray 55)) := (Below.refl _ _).alloc (Nat.le_refl _) _
  have hz : w.heap.size < (w.alloc (.cells s.vals.toArray 55)).heap.size := by simp
  obtain ⟨-, r0, r1, r2, r3, r4⟩ := settRows hb0
  obtain ⟨p0, p1, p2, p3, p4⟩ := Sett.ok_pos hs
  obtain ⟨g0, g1, g2, g3, g4⟩ := hg
  have g0 : s.mode.n ≤ 9223372036854775807 := (Go.bounds_i64 g0).2
  have g1 : s.uid.n ≤ 9223372036854775807 := (Go.bounds_i64 g1).2
  have g2 : s.gid.n ≤ 9223372036854775807 := (Go.bounds_i64 g2).2
  have g3 : s.size.n ≤ 9223372036854775807 := (Go.bounds_i64 g3).2
  have g4 : s.time.n ≤ 9223372036854775807 := (Go.bounds_i64 g4).2
  have l0 := s.mode.bytes_len
  have l1 := s.uid.bytes_len
  have l2 := s.gid.bytes_len
  have l3 := s.size.bytes_len
  have l4 := s.time.bytes_len
  have f0 : s.mode.bytes.length + s.uid.bytes.length ≤ 9223372036854775807 := by omega
  have f1 : s.mode.bytes.length + s.uid.bytes.length + s.gid.bytes.length ≤ 9223372036854775807 := by omega
  have f2 : s.mode.bytes.length + s.uid.bytes.length + s.gid.bytes.length + s.size.bytes.length ≤ 9223372036854775807 := by omega
  have f3 : s.mode.bytes.length + s.uid.bytes.length + s.gid.bytes.length + s.size.bytes.length + s.time.bytes.length ≤ 9223372036854775807 := by omega
  have e1 : (s.mode.bytes ++ s.uid.bytes).length + s.gid.bytes.length ≤ 9223372036854775807 := by simp; omega
  have e2 : (s.mode.bytes ++ s.uid.bytes ++ s.gid.bytes).length + s.size.bytes.length ≤ 9223372036854775807 := by simp; omega
  have e3 : (s.mode.bytes ++ s.uid.bytes ++ s.gid.bytes ++ s.size.bytes).length + s.time.bytes.length ≤ 9223372036854775807 := by simp; omega
  have d2 : s.mode.bytes.length + (s.uid.bytes.length + s.gid.bytes.length) + s.size.bytes.length ≤ 9223372036854775807 := by omega
  have d3 : s.mode.bytes.length + (s.uid.bytes.length + (s.gid.bytes.length + s.size.bytes.length)) + s.time.bytes.length ≤ 9223372036854775807 := by omega
  clear hb0 l0 l1 l2 l3 l4
  go_enter Tryd.func81, Tryd.ntmps81
  go_wp2_with fail
  generalize w.alloc (.cells s.vals.toArray 55) = w1 at *
  go_region_held3 (fun W => Stb w1 W) (first | exact Stb.start | assumption | (exact Stb.alloc (by assumption) _) | (exact Stb.call (by assumption) (by assumption))) (first
    | (go_at_call 82; refine (refOptO_any _ _ (by assumption) (by assumption)).mono ?_; rintro e w2 ⟨rfl, hb⟩))
  have hs5 : Stb w1 w2 := by assumption
  go_wp2
  go_ret
  exact ⟨ret_string (by simp [Sett.bytes]), below_then hB0 hs5.below⟩
end Go.Proofs.YthfhdighniiodaaDoor
