/-
  Layer 7, walks: the laws CallPuts, CallGets, CallCut. Conditions: the call's numbers are machine numbers.
-/
import Derived.Test.YthfhdighniiodaaDoorC31
import Derived.Test.YthfhdighniiodaaDoorC32
import Derived.Test.YthfhdighniiodaaDoorC33
namespace Go.Proofs.YthfhdighniiodaaDoor
open Go.RowKit
attribute [local go_sem ↓] Go.wp_at_zero Go.wp_at_succ
attribute [local go_sem] rowAt_ptr rowOf_drew rowOf_drewN rowOf_alloc_past rowOf_new
attribute [local go_sem ↓] ldCall

attribute [local go_sem] Call.at0 Call.lat0 Call.at1 Call.lat1 Call.at2 Call.lat2 Call.at3 Call.lat3 Call.at4 Call.lat4 Call.at5 Call.lat5 Call.at6 Call.lat6 Call.at7 Call.lat7 Call.at8 Call.lat8 Call.at9 Call.lat9 Call.at10 Call.lat10 Call.at11 Call.lat11 Call.at12 Call.lat12 Call.at13 Call.lat13 Call.at14 Call.lat14 Call.at15 Call.lat15 Call.at16 Call.lat16 Call.at17 Call.lat17 Call.at18 Call.lat18 Call.at19 Call.lat19 Call.at20 Call.lat20 Call.at21 Call.lat21 Call.at22 Call.lat22 Call.at23 Call.lat23 Call.sub0_24 Call.lsub0_24 Call.sub9_10 Call.lsub9_10 Call.sub9_2 Call.lsub9_2 Call.sub11_2 Call.lsub11_2 Call.sub13_2 Call.lsub13_2 Call.sub15_2 Call.lsub15_2 Call.sub17_2 Call.lsub17_2 Call.sub19_2 Call.lsub19_2 Call.len Sett.at0 Sett.lat0 Sett.at1 Sett.lat1 Sett.at2 Sett.lat2 Sett.at3 Sett.lat3 Sett.at4 Sett.lat4 Sett.at5 Sett.lat5 Sett.at6 Sett.lat6 Sett.at7 Sett.lat7 Sett.at8 Sett.lat8 Sett.at9 Sett.lat9 Sett.sub0_10 Sett.lsub0_10 Sett.sub0_2 Sett.lsub0_2 Sett.sub2_2 Sett.lsub2_2 Sett.sub4_2 Sett.lsub4_2 Sett.sub6_2 Sett.lsub6_2 Sett.sub8_2 Sett.lsub8_2 Sett.len Opt.at0 Opt.lat0 Opt.at1 Opt.lat1 Opt.sub0_2 Opt.lsub0_2 Opt.len guardCall

theorem eqlCall (x y : Call) (w : World) : (binOp .eql 57 (.agg x.vals.toArray) (.agg y.vals.toArray)).run Tryd.prog w = .ok (.bool (decide (x = y))) w := by
  by_cases h : x = y
  · rw [eql_same leafsCall (by kernel_rfl) w _ _ (by rfl) (by rw [h]), decide_eq_true h]
  · rw [eql_other leafsCall (by kernel_rfl) w _ _ (by rfl) (by rfl) (fun e => h (Call.inj e)), decide_eq_false h]
theorem eqlCallZ (x : Call) (w : World) : (binOp .eql 57 (.agg x.vals.toArray) (.agg #[.int .i64 0, .string ⟨#[]⟩, .string ⟨#[]⟩, .string ⟨#[]⟩, .string ⟨#[]⟩, .int .i64 0, .int .i64 0, .int .i64 0, .string ⟨#[]⟩, .bool false, .int .i64 0, .bool false, .int .i64 0, .bool false, .int .i64 0, .bool false, .int .i64 0, .bool false, .int .i64 0, .bool false, .int .i64 0, .int .i64 0, .int .i64 0, .string ⟨#[]⟩])).run Tryd.prog w = .ok (.bool (decide (x = callZ))) w := eqlCall x callZ w
attribute [local go_sem ↓] eqlCallZ eqlCall

theorem cPut_is (x : Call) : cPut x = if cCheck x = 0 then (cLaid x (cFields x.proc) (cFields x.proc).length, 0) else ([], cCheck x) := rfl
theorem cWants_is {x : Call} (hgo : x.offset ≤ 9223372036854775807) (hgk : x.cookie ≤ 9223372036854775807) (hgv : x.verf ≤ 9223372036854775807) (hgg : x.guard.n ≤ 9223372036854775807) : cWants x = cCheck x := by
  unfold cWants
  cases ht : cThere x.proc
  · rw [if_pos rfl, cCheck, if_pos ht]
  · rw [if_neg (by simp)]
    have h := cIs_zero ht hgo hgk hgv hgg
    by_cases hi : cIs x = true
    · rw [if_pos hi, h.1 hi]
    · rw [if_neg hi]
      unfold cCheck at *
      rw [if_neg (by rw [ht]; simp)] at *
      split
      · next h2 => rw [if_pos h2] at h; exact absurd (h.2 rfl) hi
      · rfl
theorem cCheck_there {x : Call} (h : cCheck x = 0) : cThere x.proc = true := by
  unfold cCheck at h
  cases ht : cThere x.proc
  · rw [ht] at h; simp at h
  · rfl

set_option maxRecDepth 20000 in
set_option maxHeartbeats 1600000 in
theorem callPuts_any (x : Call) (w : World) (hgo : x.offset ≤ 9223372036854775807) (hgk : x.cookie ≤ 9223372036854775807) (hgv : x.verf ≤ 9223372036854775807) (hgs : x.set.good) (hgg : x.guard.n ≤ 9223372036854775807) :
    Calls Tryd.prog 8 #[.agg x.vals.toArray] w fun e w' => e = .returned (.bool true) ∧ Below w.heap.size w w' := by
  have hb := Blk.new w 57 x.vals
  have hB : Below w.heap.size w (w.alloc (.cells x.vals.toArray 57)) := (Below.refl _ _).alloc (Nat.le_refl _) _
  have hc := hb.cell
  have rX : rowOf (w.alloc (.cells x.vals.toArray 57)) w.heap.size 0 24 = some x.vals.toArray := hb.row 0 24 (by simp [Call.len])
  have HP := Lib.hid (fun u => put7_any x u hgo hgk hgv hgs hgg)
  have HW := Lib.hid (fun u => wants_any x u)
  have HWI := cWants_is hgo hgk hgv hgg
  rw [HWI] at HW
  clear HWI
  obtain ⟨b, hbe⟩ : ∃ b, b = w.heap.size := ⟨_, rfl⟩
  go_enter Tryd.func8, Tryd.ntmps8
  go_wp2_with fail
  change Calls _ _ _ (w.alloc (.cells x.vals.toArray 57)) _
  generalize w.alloc (.cells x.vals.toArray 57) = w0 at *
  refine (refLarge7_any x _).mono ?_
  rintro e w1 ⟨rfl, hb1⟩
  have hB1 := below_then hB hb1
  have hb1 := hb.stays hb1
  clear hB hb hc rX
  cases hL : cLarge x with
  | true =>
    go_wp2_with fail
    refine (known7_any _).mono ?_
    rintro e w2 ⟨rfl, hb2⟩
    go_wp2
    go_ret
    exact ⟨rfl, below_then hB1 hb2⟩
  | false =>
    have rX := hb1.row 0 24 (by simp [Call.len])
    go_wp2_with fail
    refine (HP.out _).mono ?_
    rintro e w2 ⟨rfl, hx⟩
    have hB2 := below_then hB1 hx
    have hb2 := hb1.stays hx
    clear hB1 hb1 rX hx
    have rX := hb2.row 0 24 (by simp [Call.len])
    go_wp2_with fail
    refine (HW.out _).mono ?_
    rintro e w3 ⟨rfl, hx⟩
    have hB3 := below_then hB2 hx
    have hb3 := hb2.stays hx
    clear hB2 hb2 rX hx
    have rX := hb3.row 0 24 (by simp [Call.len])
    have HC := Lib.hid (fun u => check7_any x u)
    have HI := Lib.hid (cPut_is x)
    by_cases hck : cCheck x = 0
    · have HMA := Lib.hid (cCheck_fine hck)
      have hcl : cPut x = (cLaid x (cFields x.proc) (cFields x.proc).length, 0) := by rw [cPut_is, if_pos hck]
      have hlen := cLaid_len x (cFields x.proc) (cCheck_fine hck) (fun k hk => cFields_letter x.proc hk) _ (Nat.le_refl _)
      have hsh := cFields_short x.proc
      have HR := Lib.hid (fun u => refBytes7_any x u (cCheck_fine hck) hgo hgk hgv hgs hgg)
      have hgb := cGet_back x hck [] hgo hgk hgv hgg
      rw [if_pos rfl, List.append_nil] at hgb
      have HG := Lib.hid (fun u => get7_any x.proc (cLaid x (cFields x.proc) (cFields x.proc).length) u (by omega))
      rw [hgb] at HG
      rw [hck] at HC
      rw [hcl, hck]
      clear hgb HI hlen hsh HMA hcl hck
      generalize cLaid x (cFields x.proc) (cFields x.proc).length = s at *
      have hc3 := hb3.cell
      go_wp2_with fail
      refine (HC.out _).mono ?_
      rintro e w4 ⟨rfl, hx⟩
      have hB4 := below_then hB3 hx
      have hb4 := hb3.stays hx
      clear hB3 hb3 rX hx hc3
      have hc4 := hb4.cell
      go_wp2_with fail
      refine (HG.out _).mono ?_
      rintro e w5 ⟨rfl, hx⟩
      unfold gotV
      have hB5 := below_then hB4 hx
      have hb5 := hb4.stays hx
      clear hB4 hb4 hx hc4
      have hY := Blk.new w5 57 x.vals
      have hX6 := hb5.alloc (.cells x.vals.toArray 57)
      have hB6 := hB5.alloc hB5.size (.cells x.vals.toArray 57)
      obtain ⟨w6, hw6⟩ : ∃ u, u = w5.alloc (.cells x.vals.toArray 57) := ⟨_, rfl⟩
      rw [← hw6] at hY hX6 hB6
      have HW6 := Lib.hid hw6
      clear hw6 hB5 hb5
      have rX := hX6.row 0 24 (by simp [Call.len])
      go_wp2_with (first
        | (refine wpList_new_struct (by rfl) (by rfl) 57 (by rfl) _ _ (by rfl) x.vals infoCall (by rfl) (by rfl) (Call.one _) (by rfl) (by rfl) ?_; rw [← HW6.out])
        | fail)
      refine (HR.out _).mono ?_
      rintro e w7 ⟨rfl, hx⟩
      have hB7 := below_then hB6 hx
      have hX7 := hX6.stays hx
      have hY7 := hY.stays hx
      clear hB6 hX6 hY hx rX
      have rX := hX7.row 0 24 (by simp [Call.len])
      have rY := hY7.row 0 24 (by simp [Call.len])
      go_wp2_with fail
      refine (known7_any _).mono ?_
      rintro e w8 ⟨rfl, hx⟩
      go_wp2
      go_ret
      exact ⟨rfl, below_then hB7 hx⟩
    · have hcl : cPut x = ([], cCheck x) := by rw [cPut_is, if_neg hck]
      rw [hcl]
      clear HI hcl
      generalize cCheck x = k at *
      have HK := Lib.hid hck
      go_wp2_with fail
      refine (HC.out _).mono ?_
      rintro e w4 ⟨rfl, hx⟩
      have hB4 := below_then hB3 hx
      clear hB3 hb3 rX hx
      have hk2 : (k != 0) = true := by simpa using hck
      go_wp2_with fail
      refine (known7_any _).mono ?_
      rintro e w8 ⟨rfl, hx⟩
      go_wp2
      go_ret
      exact ⟨rfl, below_then hB4 hx⟩
end Go.Proofs.YthfhdighniiodaaDoor

/-
  Layer 7, walks: the law CallGets. Condition: a machine text.
-/
namespace Go.Proofs.YthfhdighniiodaaDoor
open Go.RowKit
attribute [local go_sem ↓] Go.wp_at_zero Go.wp_at_succ
attribute [local go_sem] rowAt_ptr rowOf_drew rowOf_drewN rowOf_alloc_past rowOf_new
attribute [local go_sem ↓] ldCall eqlCallZ eqlCall

attribute [local go_sem] Call.at0 Call.lat0 Call.at1 Call.lat1 Call.at2 Call.lat2 Call.at3 Call.lat3 Call.at4 Call.lat4 Call.at5 Call.lat5 Call.at6 Call.lat6 Call.at7 Call.lat7 Call.at8 Call.lat8 Call.at9 Call.lat9 Call.at10 Call.lat10 Call.at11 Call.lat11 Call.at12 Call.lat12 Call.at13 Call.lat13 Call.at14 Call.lat14 Call.at15 Call.lat15 Call.at16 Call.lat16 Call.at17 Call.lat17 Call.at18 Call.lat18 Call.at19 Call.lat19 Call.at20 Call.lat20 Call.at21 Call.lat21 Call.at22 Call.lat22 Call.at23 Call.lat23 Call.sub0_24 Call.lsub0_24 Call.sub9_10 Call.lsub9_10 Call.sub9_2 Call.lsub9_2 Call.sub11_2 Call.lsub11_2 Call.sub13_2 Call.lsub13_2 Call.sub15_2 Call.lsub15_2 Call.sub17_2 Call.lsub17_2 Call.sub19_2 Call.lsub19_2 Call.len Sett.at0 Sett.lat0 Sett.at1 Sett.lat1 Sett.at2 Sett.lat2 Sett.at3 Sett.lat3 Sett.at4 Sett.lat4 Sett.at5 Sett.lat5 Sett.at6 Sett.lat6 Sett.at7 Sett.lat7 Sett.at8 Sett.lat8 Sett.at9 Sett.lat9 Sett.sub0_10 Sett.lsub0_10 Sett.sub0_2 Sett.lsub0_2 Sett.sub2_2 Sett.lsub2_2 Sett.sub4_2 Sett.lsub4_2 Sett.sub6_2 Sett.lsub6_2 Sett.sub8_2 Sett.lsub8_2 Sett.len Opt.at0 Opt.lat0 Opt.at1 Opt.lat1 Opt.sub0_2 Opt.lsub0_2 Opt.len guardCall

/-- the document's call is the program's -/
theorem dGet_is (p : Int) (s : List UInt8) (ht : cThere p = true) (h : (dGet p s).2 = true) : cGet p s = ((dGet p s).1, 0) := by
  rw [cGet_d p s ht, if_pos h]
theorem dGet_not (p : Int) (s : List UInt8) (ht : cThere p = true) (h : (dGet p s).2 = false) : cGet p s = (callZ, 14) := by
  rw [cGet_d p s ht, if_neg (by rw [h]; simp)]

set_option maxRecDepth 20000 in
set_option maxHeartbeats 1600000 in
theorem callGets_any (p : Int) (s : List UInt8) (w : World) (hl : s.length ≤ maxLen) :
    Calls Tryd.prog 9 #[.int .i64 p, .string (bs s)] w fun e w' => e = .returned (.bool true) ∧ Below w.heap.size w w' := by
  have hsz := bs_size s
  unfold maxLen at hl
  by_cases hlong : 1500 < (s.length : Int)
  · go_enter Tryd.func9, Tryd.ntmps9
    go_wp2_with fail
    refine (known7_any _).mono ?_
    rintro e w2 ⟨rfl, hb2⟩
    go_wp2
    go_ret
    exact ⟨rfl, hb2⟩
  · have HG := Lib.hid (fun u => get7_any p s u (by omega))
    have HD := Lib.hid (fun u => refGet7_any p s u (by omega))
    cases ht : cThere p with
    | false =>
      have hg : cGet p s = (callZ, 22) := by unfold cGet; rw [if_pos ht]
      rw [hg] at HG
      clear hg HD
      go_enter Tryd.func9, Tryd.ntmps9
      go_wp2_with fail
      refine (HG.out _).mono ?_
      rintro e w1 ⟨rfl, hB1⟩
      unfold gotV
      have hY := Blk.new w1 57 callZ.vals
      have hB2 := hB1.alloc hB1.size (.cells callZ.vals.toArray 57)
      obtain ⟨w2, hw2⟩ : ∃ u, u = w1.alloc (.cells callZ.vals.toArray 57) := ⟨_, rfl⟩
      rw [← hw2] at hY hB2
      have HW2 := Lib.hid hw2
      clear hw2 hB1
      have rY := hY.row 0 24 (by simp [Call.len])
      have tok : True := trivial
      go_wp2_with (first
        | (clear tok; refine wpList_new_struct (by rfl) (by rfl) 57 (by rfl) _ _ (by rfl) callZ.vals infoCall (by rfl) (by rfl) (Call.one _) (by rfl) (by rfl) ?_; rw [← HW2.out])
        | fail)
      refine (refThere_any _ _).mono ?_
      rintro e w3 ⟨rfl, rfl⟩
      rw [ht]
      go_wp2_with fail
      refine (known7_any _).mono ?_
      rintro e w4 ⟨rfl, hb4⟩
      go_wp2
      go_ret
      exact ⟨rfl, below_then hB2 hb4⟩
    | true =>
      cases hd : (dGet p s).2 with
      | false =>
        have hg := dGet_not p s ht hd
        rw [hg] at HG
        rw [hd] at HD
        clear hg hd
        generalize (dGet p s).1 = d at *
        go_enter Tryd.func9, Tryd.ntmps9
        go_wp2_with fail
        refine (HG.out _).mono ?_
        rintro e w1 ⟨rfl, hB1⟩
        unfold gotV
        have hY := Blk.new w1 57 callZ.vals
        have hB2 := hB1.alloc hB1.size (.cells callZ.vals.toArray 57)
        obtain ⟨w2, hw2⟩ : ∃ u, u = w1.alloc (.cells callZ.vals.toArray 57) := ⟨_, rfl⟩
        rw [← hw2] at hY hB2
        have HW2 := Lib.hid hw2
        clear hw2 hB1
        have tok : True := trivial
        go_wp2_with (first
          | (clear tok; refine wpList_new_struct (by rfl) (by rfl) 57 (by rfl) _ _ (by rfl) callZ.vals infoCall (by rfl) (by rfl) (Call.one _) (by rfl) (by rfl) ?_; rw [← HW2.out])
          | fail)
        refine (refThere_any _ _).mono ?_
        rintro e w3 ⟨rfl, rfl⟩
        rw [ht]
        go_wp2_with fail
        refine (HD.out _).mono ?_
        rintro e w4 ⟨rfl, hx⟩
        have hB4 := below_then hB2 hx
        have hY4 := hY.stays hx
        clear hB2 hY hx
        have hD := Blk.new w4 57 d.vals
        have hY5 := hY4.alloc (.cells d.vals.toArray 57)
        have hB5 := hB4.alloc hB4.size (.cells d.vals.toArray 57)
        obtain ⟨w5, hw5⟩ : ∃ u, u = w4.alloc (.cells d.vals.toArray 57) := ⟨_, rfl⟩
        rw [← hw5] at hD hY5 hB5
        have HW5 := Lib.hid hw5
        clear hw5 hB4 hY4
        have rY := hY5.row 0 24 (by simp [Call.len])
        have tok : True := trivial
        go_wp2_with (first
          | (clear tok; refine wpList_new_struct (by rfl) (by rfl) 57 (by rfl) _ _ (by rfl) d.vals infoCall (by rfl) (by rfl) (Call.one _) (by rfl) (by rfl) ?_; rw [← HW5.out])
          | fail)
        refine (known7_any _).mono ?_
        rintro e w6 ⟨rfl, hb6⟩
        go_wp2
        go_ret
        exact ⟨rfl, below_then hB5 hb6⟩
      | true =>
        have hg := dGet_is p s ht hd
        have hsame := cGet_same p s (by omega) ht (by rw [hg])
        rw [hg] at HG hsame
        rw [hd] at HD
        clear hg hd
        generalize (dGet p s).1 = d at *
        obtain ⟨e1, e2, e3, f1, f2, f3, f4, f5⟩ := hsame
        rw [← e3] at e1 e2
        have HR := Lib.hid (fun u => refBytes7_any d u e2 f1 f2 f3 f4 f5)
        rw [← e1] at HR
        clear e1 e2 e3 f1 f2 f3 f4 f5
        go_enter Tryd.func9, Tryd.ntmps9
        go_wp2_with fail
        refine (HG.out _).mono ?_
        rintro e w1 ⟨rfl, hB1⟩
        unfold gotV
        have hY := Blk.new w1 57 d.vals
        have hB2 := hB1.alloc hB1.size (.cells d.vals.toArray 57)
        obtain ⟨w2, hw2⟩ : ∃ u, u = w1.alloc (.cells d.vals.toArray 57) := ⟨_, rfl⟩
        rw [← hw2] at hY hB2
        have HW2 := Lib.hid hw2
        clear hw2 hB1
        have tok : True := trivial
        go_wp2_with (first
          | (clear tok; refine wpList_new_struct (by rfl) (by rfl) 57 (by rfl) _ _ (by rfl) d.vals infoCall (by rfl) (by rfl) (Call.one _) (by rfl) (by rfl) ?_; rw [← HW2.out])
          | fail)
        refine (refThere_any _ _).mono ?_
        rintro e w3 ⟨rfl, rfl⟩
        rw [ht]
        go_wp2_with fail
        refine (HD.out _).mono ?_
        rintro e w4 ⟨rfl, hx⟩
        have hB4 := below_then hB2 hx
        have hY4 := hY.stays hx
        clear hB2 hY hx
        have hD := Blk.new w4 57 d.vals
        have hY5 := hY4.alloc (.cells d.vals.toArray 57)
        have hB5 := hB4.alloc hB4.size (.cells d.vals.toArray 57)
        obtain ⟨w5, hw5⟩ : ∃ u, u = w4.alloc (.cells d.vals.toArray 57) := ⟨_, rfl⟩
        rw [← hw5] at hD hY5 hB5
        have HW5 := Lib.hid hw5
        clear hw5 hB4 hY4
        have rY := hY5.row 0 24 (by simp [Call.len])
        have rD := hD.row 0 24 (by simp [Call.len])
        have tok : True := trivial
        go_wp2_with (first
          | (clear tok; refine wpList_new_struct (by rfl) (by rfl) 57 (by rfl) _ _ (by rfl) d.vals infoCall (by rfl) (by rfl) (Call.one _) (by rfl) (by rfl) ?_; rw [← HW5.out])
          | fail)
        refine (HR.out _).mono ?_
        rintro e w6 ⟨rfl, hb6⟩
        have hB6 := below_then hB5 hb6
        clear hB5 hb6
        go_wp2_with fail
        refine (known7_any _).mono ?_
        rintro e w7 ⟨rfl, hb7⟩
        go_wp2
        go_ret
        exact ⟨rfl, below_then hB6 hb7⟩
end Go.Proofs.YthfhdighniiodaaDoor
