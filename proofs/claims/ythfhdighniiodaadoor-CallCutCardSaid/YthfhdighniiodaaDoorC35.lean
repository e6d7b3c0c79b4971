/-
  Layer 7, walks: the law CallCut. Conditions: the call's numbers are machine numbers; a machine text.
-/
import Derived.Test.YthfhdighniiodaaDoorC34
import Derived.Deep.WholeRow
namespace Go.Proofs.YthfhdighniiodaaDoor
open Go.RowKit
attribute [local go_sem ↓] Go.wp_at_zero Go.wp_at_succ
attribute [local go_sem] rowAt_ptr rowOf_drew rowOf_drewN rowOf_alloc_past rowOf_new
attribute [local go_sem ↓] ldCall eqlCallZ eqlCall

attribute [local go_sem] Call.at0 Call.lat0 Call.at1 Call.lat1 Call.at2 Call.lat2 Call.at3 Call.lat3 Call.at4 Call.lat4 Call.at5 Call.lat5 Call.at6 Call.lat6 Call.at7 Call.lat7 Call.at8 Call.lat8 Call.at9 Call.lat9 Call.at10 Call.lat10 Call.at11 Call.lat11 Call.at12 Call.lat12 Call.at13 Call.lat13 Call.at14 Call.lat14 Call.at15 Call.lat15 Call.at16 Call.lat16 Call.at17 Call.lat17 Call.at18 Call.lat18 Call.at19 Call.lat19 Call.at20 Call.lat20 Call.at21 Call.lat21 Call.at22 Call.lat22 Call.at23 Call.lat23 Call.sub0_24 Call.lsub0_24 Call.sub9_10 Call.lsub9_10 Call.sub9_2 Call.lsub9_2 Call.sub11_2 Call.lsub11_2 Call.sub13_2 Call.lsub13_2 Call.sub15_2 Call.lsub15_2 Call.sub17_2 Call.lsub17_2 Call.sub19_2 Call.lsub19_2 Call.len Sett.at0 Sett.lat0 Sett.at1 Sett.lat1 Sett.at2 Sett.lat2 Sett.at3 Sett.lat3 Sett.at4 Sett.lat4 Sett.at5 Sett.lat5 Sett.at6 Sett.lat6 Sett.at7 Sett.lat7 Sett.at8 Sett.lat8 Sett.at9 Sett.lat9 Sett.sub0_10 Sett.lsub0_10 Sett.sub0_2 Sett.lsub0_2 Sett.sub2_2 Sett.lsub2_2 Sett.sub4_2 Sett.lsub4_2 Sett.sub6_2 Sett.lsub6_2 Sett.sub8_2 Sett.lsub8_2 Sett.len Opt.at0 Opt.lat0 Opt.at1 Opt.lat1 Opt.sub0_2 Opt.lsub0_2 Opt.len guardCall

theorem storeNewCallZ (u : World) : (storeCells ⟨u.heap.size, 0, none⟩ callZ.vals 0).run Tryd.prog (u.alloc (.cells #[.int .i64 0, .string ⟨#[]⟩, .string ⟨#[]⟩, .string ⟨#[]⟩, .string ⟨#[]⟩, .int .i64 0, .int .i64 0, .int .i64 0, .string ⟨#[]⟩, .bool false, .int .i64 0, .bool false, .int .i64 0, .bool false, .int .i64 0, .bool false, .int .i64 0, .bool false, .int .i64 0, .bool false, .int .i64 0, .int .i64 0, .int .i64 0, .string ⟨#[]⟩] 57)) = .ok () (u.alloc (.cells callZ.vals.toArray 57)) :=
  run_storeCells_new u 57 callZ.vals.toArray callZ.vals.toArray (zero_of_info infoCall).2 rfl (all_oneCell_toArray (Call.one _))
attribute [local go_sem ↓] storeNewCallZ

theorem Stb.setNew {w W : World} {b : Nat} (h : Stb w W) (hb : w.heap.size ≤ b) (cs : List Value) : Stb w (W.setCells b 0 cs) := Stb.of (Below.setWhole h.below hb cs)
theorem storeOldCallZ (u W : World) (b : Nat) (hb : b = u.heap.size) (h : Below (u.alloc (.cells #[.int .i64 0, .string ⟨#[]⟩, .string ⟨#[]⟩, .string ⟨#[]⟩, .string ⟨#[]⟩, .int .i64 0, .int .i64 0, .int .i64 0, .string ⟨#[]⟩, .bool false, .int .i64 0, .bool false, .int .i64 0, .bool false, .int .i64 0, .bool false, .int .i64 0, .bool false, .int .i64 0, .bool false, .int .i64 0, .int .i64 0, .int .i64 0, .string ⟨#[]⟩] 57)).drew.heap.size (u.alloc (.cells #[.int .i64 0, .string ⟨#[]⟩, .string ⟨#[]⟩, .string ⟨#[]⟩, .string ⟨#[]⟩, .int .i64 0, .int .i64 0, .int .i64 0, .string ⟨#[]⟩, .bool false, .int .i64 0, .bool false, .int .i64 0, .bool false, .int .i64 0, .bool false, .int .i64 0, .bool false, .int .i64 0, .bool false, .int .i64 0, .int .i64 0, .int .i64 0, .string ⟨#[]⟩] 57)).drew W) : ∃ wS, (storeCells ⟨b, 0, none⟩ callZ.vals 0).run Tryd.prog W = .ok () wS ∧ ∀ v : World, Stb v W → v.heap.size ≤ b → Stb v wS := by
  subst hb
  have hB : Blk W u.heap.size 57 callZ.vals := Blk.stays (show Blk (u.alloc (.cells callZ.vals.toArray 57)).drew _ _ _ from Blk.new u 57 callZ.vals) h
  have ht := hB.there 0 24 (by rw [Call.len]; omega)
  have := run_storeCells_cells (P := Tryd.prog) u.heap.size 0 callZ.vals 0 W (fun j hj => by simpa using (ht j (by rw [Call.len] at hj; exact hj)).1) (fun j hj => by simpa using (ht j (by rw [Call.len] at hj; exact hj)).2) (Call.one _)
  exact ⟨W.setCells u.heap.size 0 callZ.vals, by simpa using this, fun v hv hb => Stb.setNew hv hb _⟩
set_option maxRecDepth 20000 in
set_option maxHeartbeats 1600000 in
theorem callCut_any (x : Call) (m : List UInt8) (w : World) (hlm : m.length ≤ maxLen) (hgo : x.offset ≤ 9223372036854775807) (hgk : x.cookie ≤ 9223372036854775807) (hgv : x.verf ≤ 9223372036854775807) (hgs : x.set.good) (hgg : x.guard.n ≤ 9223372036854775807) :
    Calls Tryd.prog 10 #[.agg x.vals.toArray, .string (bs m)] w fun e w' => e = .returned (.bool true) ∧ Below w.heap.size w w' := by
  unfold maxLen at hlm
  have hsm := bs_size m
  have hb := Blk.new w 57 x.vals
  have hB : Below w.heap.size w (w.alloc (.cells x.vals.toArray 57)) := (Below.refl _ _).alloc (Nat.le_refl _) _
  have hc := hb.cell
  have rX : rowOf (w.alloc (.cells x.vals.toArray 57)) w.heap.size 0 24 = some x.vals.toArray := hb.row 0 24 (by simp [Call.len])
  have HW := Lib.hid (fun u => wants_any x u)
  rw [cWants_is hgo hgk hgv hgg] at HW
  obtain ⟨b, hbe⟩ : ∃ b, b = w.heap.size := ⟨_, rfl⟩
  cases hL : cLarge x with
  | true =>
    go_enter Tryd.func10, Tryd.ntmps10
    go_wp2_with fail
    change Calls _ _ _ (w.alloc (.cells x.vals.toArray 57)) _
    generalize w.alloc (.cells x.vals.toArray 57) = w0 at *
    refine (refLarge7_any x _).mono ?_
    rintro e w1 ⟨rfl, hb1⟩
    rw [hL]
    have hB1 := below_then hB hb1
    clear hB hb hc rX hb1
    go_wp2_with fail
    refine (known7_any _).mono ?_
    rintro e w2 ⟨rfl, hb2⟩
    go_wp2
    go_ret
    exact ⟨rfl, below_then hB1 hb2⟩
  | false =>
    by_cases hlong : 100 < (m.length : Int)
    · go_enter Tryd.func10, Tryd.ntmps10
      go_wp2_with fail
      change Calls _ _ _ (w.alloc (.cells x.vals.toArray 57)) _
      generalize w.alloc (.cells x.vals.toArray 57) = w0 at *
      refine (refLarge7_any x _).mono ?_
      rintro e w1 ⟨rfl, hb1⟩
      rw [hL]
      have hB1 := below_then hB hb1
      clear hB hb hc rX hb1
      go_wp2_with fail
      refine (known7_any _).mono ?_
      rintro e w2 ⟨rfl, hb2⟩
      go_wp2
      go_ret
      exact ⟨rfl, below_then hB1 hb2⟩
    · by_cases hnil : m = []
      · subst hnil
        go_enter Tryd.func10, Tryd.ntmps10
        go_wp2_with fail
        change Calls _ _ _ (w.alloc (.cells x.vals.toArray 57)) _
        generalize w.alloc (.cells x.vals.toArray 57) = w0 at *
        refine (refLarge7_any x _).mono ?_
        rintro e w1 ⟨rfl, hb1⟩
        rw [hL]
        have hB1 := below_then hB hb1
        clear hB hb hc rX hb1
        go_wp2_with fail
        refine (known7_any _).mono ?_
        rintro e w2 ⟨rfl, hb2⟩
        go_wp2
        go_ret
        exact ⟨rfl, below_then hB1 hb2⟩
      · have hne : (m == []) = false := by simpa using hnil
        by_cases hck : cCheck x = 0
        · have hlen := cLaid_len x (cFields x.proc) (cCheck_fine hck) (fun k hk => cFields_letter x.proc hk) _ (Nat.le_refl _)
          have hsh := cFields_short x.proc
          have HR := Lib.hid (fun u => refBytes7_any x u (cCheck_fine hck) hgo hgk hgv hgs hgg)
          have hgb := cGet_back x hck m hgo hgk hgv hgg
          rw [if_neg hnil] at hgb
          have hcut := fun s t hst hs ht => cGet_cut x hck s t hst hs ht hgo hgk hgv hgg
          obtain ⟨l, hl⟩ : ∃ l, l = cLaid x (cFields x.proc) (cFields x.proc).length := ⟨_, rfl⟩
          rw [← hl] at HR hgb hcut hlen
          have hl5 : l.length ≤ 3000 := by omega
          have hsl := bs_size l
          have HG := Lib.hid (fun u => get7_any x.proc (l ++ m) u (by rw [List.length_append]; omega))
          rw [hgb] at HG
          rw [hck] at HW
          clear hl hgb hlen hsh hck
          go_enter Tryd.func10, Tryd.ntmps10
          go_wp2_with fail
          change Calls _ _ _ (w.alloc (.cells x.vals.toArray 57)) _
          generalize w.alloc (.cells x.vals.toArray 57) = w0 at *
          refine (refLarge7_any x _).mono ?_
          rintro e w1 ⟨rfl, hx⟩
          rw [hL]
          have hB1 := below_then hB hx
          have hb1 := hb.stays hx
          clear hB hb hc rX hx
          have rX := hb1.row 0 24 (by simp [Call.len])
          go_wp2_with fail
          refine (HW.out _).mono ?_
          rintro e w2 ⟨rfl, hx⟩
          have hB2 := below_then hB1 hx
          have hb2 := hb1.stays hx
          clear hB1 hb1 rX hx
          have rX := hb2.row 0 24 (by simp [Call.len])
          go_wp2_with fail
          refine (HR.out _).mono ?_
          rintro e w3 ⟨rfl, hx⟩
          have hB3 := below_then hB2 hx
          have hb3 := hb2.stays hx
          clear hB2 hb2 rX hx
          have hc3 := hb3.cell
          go_wp2_with fail
          refine (HG.out _).mono ?_
          rintro e w4 ⟨rfl, hx⟩
          unfold gotV
          have hB4 := below_then hB3 hx
          have hb4 := hb3.stays hx
          clear hB3 hb3 hx hc3
          have hX5 := hb4.alloc (.cells callZ.vals.toArray 57)
          have hB5 := hB4.alloc hB4.size (.cells callZ.vals.toArray 57)
          obtain ⟨w5, hw5⟩ : ∃ u, u = w4.alloc (.cells callZ.vals.toArray 57) := ⟨_, rfl⟩
          rw [← hw5] at hX5 hB5
          have HW5 := Lib.hid hw5
          clear hw5 hB4 hb4
          have hc5 := hX5.cell
          have hlt5 := hX5.lt
          have tok : True := trivial
          by_cases h4 : (l.length : Int) < 4
          · go_wp2_with (first
              | (clear tok; refine wpList_new_struct (by rfl) (by rfl) 57 (by rfl) _ _ (by rfl) callZ.vals infoCall (by rfl) (by rfl) (Call.one _) (by rfl) (by rfl) ?_; rw [← HW5.out])
              | fail)
            refine (known7_any _).mono ?_
            rintro e w6 ⟨rfl, hx⟩
            go_wp2
            go_ret
            exact ⟨rfl, below_then hB5 hx⟩
          · have hcut1 := hcut (l.take (l.length - 4)) (l.drop (l.length - 4)) (List.take_append_drop _ _).symm (by rw [List.length_take]; omega) (by
              intro h
              have := congrArg List.length h
              rw [List.length_drop] at this
              simp at this
              omega)
            have HG2 := Lib.hid (fun u => get7_any x.proc (l.take (l.length - 4)) u (by rw [List.length_take]; omega))
            rw [hcut1] at HG2
            clear hcut hcut1
            have hp1 : IntKind.i64.wrap ((l.length : Int) - 4) = ((l.length - 4 : Nat) : Int) := by rw [IntWalk.i64_in _ (by omega)]; omega
            have hp2 : (0 : Int) ≤ ((l.length - 4 : Nat) : Int) := by omega
            have hp3 : ((l.length - 4 : Nat) : Int) ≤ (l.length : Int) := by omega
            have hp4 : (bs l).extract 0 (l.length - 4) = bs (l.take (l.length - 4)) := bs_take l _
            go_wp2_with (first
              | (clear tok; refine wpList_new_struct (by rfl) (by rfl) 57 (by rfl) _ _ (by rfl) callZ.vals infoCall (by rfl) (by rfl) (Call.one _) (by rfl) (by rfl) ?_; rw [← HW5.out])
              | fail)
            go_region_held3 (fun W => Stb w5 W) (first | exact Stb.start | assumption | (exact Stb.alloc (by assumption) _) | (exact hSS w5 (by assumption) (Nat.le_refl _)) | (exact Stb.call (by assumption) (by assumption))) (first
              | (go_at_call 32; refine (HG2.out _).mono ?_; rintro e wG ⟨rfl, hbG⟩; unfold gotV; try (have hex := storeOldCallZ _ _ w5.heap.size rfl hbG; obtain ⟨wS, hsG, hSS⟩ := hex))
              | fail)
            all_goals
              have hst := (by assumption : Stb w5 _)
              have HB9 := Lib.hid (below_then hB5 hst.below)
              clear hst
              go_wp2_with fail
              refine (known7_any _).mono ?_
              rintro e w9 ⟨rfl, hx9⟩
              go_wp2
              go_ret
              exact ⟨rfl, below_then HB9.out hx9⟩
        · generalize cCheck x = k at *
          have hk2 : (k != 0) = true := by simpa using hck
          go_enter Tryd.func10, Tryd.ntmps10
          go_wp2_with fail
          change Calls _ _ _ (w.alloc (.cells x.vals.toArray 57)) _
          generalize w.alloc (.cells x.vals.toArray 57) = w0 at *
          refine (refLarge7_any x _).mono ?_
          rintro e w1 ⟨rfl, hx⟩
          rw [hL]
          have hB1 := below_then hB hx
          have hb1 := hb.stays hx
          clear hB hb hc rX hx
          have rX := hb1.row 0 24 (by simp [Call.len])
          go_wp2_with fail
          refine (HW.out _).mono ?_
          rintro e w2 ⟨rfl, hx⟩
          have hB2 := below_then hB1 hx
          clear hB1 hb1 rX hx
          go_wp2_with fail
          refine (known7_any _).mono ?_
          rintro e w3 ⟨rfl, hx⟩
          go_wp2
          go_ret
          exact ⟨rfl, below_then hB2 hx⟩
end Go.Proofs.YthfhdighniiodaaDoor

/-
  Layer 7, walks: the laws CallPuts, CallCut for every call that a machine holds. No condition but that.
-/
namespace Go.Proofs.YthfhdighniiodaaDoor
open Go.RowKit
attribute [local go_sem ↓] Go.wp_at_zero Go.wp_at_succ
attribute [local go_sem] rowAt_ptr rowOf_drew rowOf_drewN rowOf_alloc_past rowOf_new

theorem callPutsM_any (x : Call) (w : World) (hg : x.good) : Calls Tryd.prog 8 #[.agg x.vals.toArray] w fun e w' => e = .returned (.bool true) ∧ Below w.heap.size w w' := by
  obtain ⟨_, _, _, _, _, ho, _, _, _, hs, hgd, hk, hv, _⟩ := hg
  exact callPuts_any x w (Go.bounds_i64 ho).2 (Go.bounds_i64 hk).2 (Go.bounds_i64 hv).2 hs (Go.bounds_i64 hgd).2
theorem callCutM_any (x : Call) (m : List UInt8) (w : World) (hg : x.good) (hm : m.length ≤ maxLen) : Calls Tryd.prog 10 #[.agg x.vals.toArray, .string (bs m)] w fun e w' => e = .returned (.bool true) ∧ Below w.heap.size w w' := by
  obtain ⟨_, _, _, _, _, ho, _, _, _, hs, hgd, hk, hv, _⟩ := hg
  exact callCut_any x m w hm (Go.bounds_i64 ho).2 (Go.bounds_i64 hk).2 (Go.bounds_i64 hv).2 hs (Go.bounds_i64 hgd).2
end Go.Proofs.YthfhdighniiodaaDoor
