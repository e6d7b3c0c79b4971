/-
  Layer 7, walks: the call of bytes. Condition: a machine text.
-/
import Derived.Test.YthfhdighniiodaaDoorC21
namespace Go.Proofs.YthfhdighniiodaaDoor
open Go.RowKit
attribute [local go_sem ↓] Go.wp_at_zero Go.wp_at_succ
attribute [local go_sem] rowAt_ptr rowOf_drew rowOf_drewN rowOf_alloc_past rowOf_new
attribute [local go_sem ↓] ldSet ldOpt ldCall

attribute [local go_sem] Call.at0 Call.lat0 Call.at1 Call.lat1 Call.at2 Call.lat2 Call.at3 Call.lat3 Call.at4 Call.lat4 Call.at5 Call.lat5 Call.at6 Call.lat6 Call.at7 Call.lat7 Call.at8 Call.lat8 Call.at9 Call.lat9 Call.at10 Call.lat10 Call.at11 Call.lat11 Call.at12 Call.lat12 Call.at13 Call.lat13 Call.at14 Call.lat14 Call.at15 Call.lat15 Call.at16 Call.lat16 Call.at17 Call.lat17 Call.at18 Call.lat18 Call.at19 Call.lat19 Call.at20 Call.lat20 Call.at21 Call.lat21 Call.at22 Call.lat22 Call.at23 Call.lat23 Call.sub0_24 Call.lsub0_24 Call.sub9_10 Call.lsub9_10 Call.sub9_2 Call.lsub9_2 Call.sub11_2 Call.lsub11_2 Call.sub13_2 Call.lsub13_2 Call.sub15_2 Call.lsub15_2 Call.sub17_2 Call.lsub17_2 Call.sub19_2 Call.lsub19_2 Call.len Sett.at0 Sett.lat0 Sett.at1 Sett.lat1 Sett.at2 Sett.lat2 Sett.at3 Sett.lat3 Sett.at4 Sett.lat4 Sett.at5 Sett.lat5 Sett.at6 Sett.lat6 Sett.at7 Sett.lat7 Sett.at8 Sett.lat8 Sett.at9 Sett.lat9 Sett.sub0_10 Sett.lsub0_10 Sett.sub0_2 Sett.lsub0_2 Sett.sub2_2 Sett.lsub2_2 Sett.sub4_2 Sett.lsub4_2 Sett.sub6_2 Sett.lsub6_2 Sett.sub8_2 Sett.lsub8_2 Sett.len Opt.at0 Opt.lat0 Opt.at1 Opt.lat1 Opt.sub0_2 Opt.lsub0_2 Opt.len

/-- the first k letters' fields are taken -/
def cSt (l : List UInt8) (z : Call) (r : Rs) (k : Nat) : Call × Rs := (l.take k).foldl (fun x c => cTk c.toNat x.1 x.2) (z, r)
theorem cSt_succ (l : List UInt8) (z : Call) (r : Rs) (k : Nat) (hk : k < l.length) : cSt l z r (k + 1) = cTk l[k].toNat (cSt l z r k).1 (cSt l z r k).2 := by
  unfold cSt
  rw [List.take_add_one, List.getElem?_eq_getElem hk, List.foldl_append]
  rfl
theorem cOpaque_len {n : Int} {r : Rs} (h : r.s.length ≤ 9223372036854775807) : (rOpaque n r).2.s.length ≤ r.s.length := by
  unfold rOpaque; split
  · exact rU32_len h
  · split
    · simp [Rs.fail]
    · exact Nat.le_trans (rPadded_len (Nat.le_trans (rU32_len h) h)) (rU32_len h)
theorem ite_of {α : Type} (P : α → Prop) {c : Prop} [Decidable c] {a b : α} (ha : P a) (hb : P b) : P (if c then a else b) := by split <;> assumption
theorem cTk_le (c : Nat) (z : Call) {r : Rs} {M : Nat} (ho : ∀ n, (rOpaque n r).2.s.length ≤ M) (h8 : (rU64 r).2.s.length ≤ M) (h4 : (rU32 r).2.s.length ≤ M) (hs : (rSett r).2.s.length ≤ M) (hg : (rOpt r).2.s.length ≤ M) (h : r.s.length ≤ M) : (cTk c z r).2.s.length ≤ M := by
  unfold cTk
  exact (ite_of (fun x : Call × Rs => x.2.s.length ≤ M) (ho _) (ite_of (fun x : Call × Rs => x.2.s.length ≤ M) (ho _) (ite_of (fun x : Call × Rs => x.2.s.length ≤ M) (ho _) (ite_of (fun x : Call × Rs => x.2.s.length ≤ M) (ho _) (ite_of (fun x : Call × Rs => x.2.s.length ≤ M) (ho _) (ite_of (fun x : Call × Rs => x.2.s.length ≤ M) (ho _) (ite_of (fun x : Call × Rs => x.2.s.length ≤ M) h8 (ite_of (fun x : Call × Rs => x.2.s.length ≤ M) h8 (ite_of (fun x : Call × Rs => x.2.s.length ≤ M) h8 (ite_of (fun x : Call × Rs => x.2.s.length ≤ M) h4 (ite_of (fun x : Call × Rs => x.2.s.length ≤ M) h4 (ite_of (fun x : Call × Rs => x.2.s.length ≤ M) hs (ite_of (fun x : Call × Rs => x.2.s.length ≤ M) hg h)))))))))))))
theorem cTk_len (c : Nat) (z : Call) {r : Rs} (h : r.s.length ≤ 9223372036854775807) : (cTk c z r).2.s.length ≤ 9223372036854775807 :=
  cTk_le c z (fun n => Nat.le_trans (cOpaque_len (n := n) h) h) (Nat.le_trans (rU64_len h) h) (Nat.le_trans (rU32_len h) h) (settK_len r 5 h) (Nat.le_trans (rOpt_len h) h) h
theorem cSt_len (l : List UInt8) (z : Call) {r : Rs} (h : r.s.length ≤ 9223372036854775807) (k : Nat) (hk : k ≤ l.length) : (cSt l z r k).2.s.length ≤ 9223372036854775807 := by
  induction k with
  | zero => exact h
  | succ k ih => rw [cSt_succ _ _ _ _ (by omega)]; exact cTk_len _ _ (ih (by omega))
/-- may the field of the letter be -/
def cStOk (l : List UInt8) (z : Call) (r : Rs) (k : Nat) : Bool := cTkOk (l.getD k 0).toNat (cSt l z r k).2
/-- the call of bytes, or the error -/
def cGet (p : Int) (s : List UInt8) : Call × Int :=
  if cThere p = false then (callZ, 22)
  else if (∀ k, k < (cFields p).length → cStOk (cFields p) { callZ with proc := p } ⟨s, 0⟩ k = true) ∧ rDone (cSt (cFields p) { callZ with proc := p } ⟨s, 0⟩ (cFields p).length).2 = 0
  then ((cSt (cFields p) { callZ with proc := p } ⟨s, 0⟩ (cFields p).length).1, 0) else (callZ, 14)
/-- what holds while a call is taken -/
structure Getting (w0 : World) (q g h b : Nat) (l : List UInt8) (z : Call) (r : Rs) (k : Nat) (W : World) : Prop where
  Z : Blk W q 57 callZ.vals
  R : Rd W g (cSt l z r k).2
  H : Blk W h 75 [.pointer (some ⟨g, 0, none⟩)]
  C : Blk W b 57 (cSt l z r k).1.vals
  B : Below w0.heap.size w0 W

theorem get1_any (w0 : World) (q g h b : Nat) (hg : w0.heap.size ≤ g) (hb : w0.heap.size ≤ b) (hqb : q ≠ b) (l : List UInt8) (z : Call) (r : Rs) (k : Nat) (hk : k < l.length) (hl : cLetter l[k].toNat) (hr : r.s.length ≤ 9223372036854775807) (W : World) (hS : Getting w0 q g h b l z r k W) :
    Calls Tryd.prog 78 #[.int .i32 l[k].toNat, .pointer (some ⟨h, 0, none⟩), .pointer (some ⟨b, 0, none⟩)] W fun e W' => e = .returned (.bool (cStOk l z r k)) ∧ Getting w0 q g h b l z r (k + 1) W' ∧ ∀ b l pos, Itr W b l pos → Itr W' b l pos := by
  have hlen := cSt_len l z hr k (Nat.le_of_lt hk)
  have hok : cStOk l z r k = cTkOk l[k].toNat (cSt l z r k).2 := by simp [cStOk, List.getD, List.getElem?_eq_getElem hk]
  have HO := Lib.hid hok
  have HT := Lib.hid (cSt_succ l z r k hk)
  clear hok
  generalize l[k].toNat = c at *
  obtain ⟨hZ, hR, hH, hC, hB⟩ := hS
  have hc := hH.cell
  have hqg : q ≠ g := Blk.ne_ hZ hR.1 (by decide)
  have hhg : h ≠ g := Blk.ne_ hH hR.1 (by decide)
  have hhb : h ≠ b := Blk.ne_ hH hC (by decide)
  go_enter Tryd.func78, Tryd.ntmps78
  go_wp2_with fail
  refine (ctake_any g b _ _ c hl _ hR hC hlen).mono ?_
  rintro e w1 ⟨rfl, hR1, hC1, hT1⟩
  have HI : ∀ b l pos, Itr W b l pos → Itr w1 b l pos := fun b' l pos h => h.touch hT1 (fun e => by
    rcases e with e | e
    · exact hR.1.ne_itr h e.symm
    · exact hC.ne_itr h e.symm)
  have HH : Getting w0 q g h b l z r (k + 1) w1 := ⟨hZ.touch hT1 (fun e => by rcases e with e | e; exact hqg e; exact hqb e), by rw [HT.out]; exact hR1, hH.touch hT1 (fun e => by rcases e with e | e; exact hhg e; exact hhb e), by rw [HT.out]; exact hC1,
    hB.trans (hT1.below (fun i _ hf => by
      rcases hf with rfl | rfl
      · exact hg
      · exact hb) hB.size)⟩
  have HO2 := HO
  clear hZ hR hH hC hB hR1 hC1 hT1 HT hlen
  go_wp2
  go_ret
  rw [HO2.out]
  exact ⟨rfl, HH, HI⟩

set_option maxRecDepth 20000 in
set_option maxHeartbeats 800000 in
theorem get7_any (p : Int) (s : List UInt8) (w : World) (hl : s.length ≤ 9223372036854775807) :
    Calls Tryd.prog 32 #[.int .i64 p, .string (bs s)] w fun e w' => e = .returned (gotV (cGet p s).1.vals (cGet p s).2) ∧ Below w.heap.size w w' := by
  have hb0 := Blk.new w 57 callZ.vals
  have hB0 : Below w.heap.size w (w.alloc (.cells callZ.vals.toArray 57)) := (Below.refl _ _).alloc (Nat.le_refl _) _
  have hs0 : (w.alloc (.cells callZ.vals.toArray 57)).heap.size = w.heap.size + 1 := by simp
  have hcf : ∀ args W, (callFunc 78 args).run Tryd.prog W = .ok (.enter 78 args) W := fun args W => by kernel_rfl
  cases ht : cThere p with
  | false =>
    have HS := Lib.hid (show cGet p s = (callZ, 22) by simp [cGet, ht])
    clear hs0
    go_enter Tryd.func32, Tryd.ntmps32
    go_wp2_with fail
    change Calls _ _ _ (w.alloc (.cells callZ.vals.toArray 57)) _
    generalize w.alloc (.cells callZ.vals.toArray 57) = w0 at *
    refine (there_any _ _).mono ?_
    rintro e w1 ⟨rfl, rfl⟩
    rw [ht]
    go_wp2_with (first | (refine wpList_store_whole (by rfl) 57 _ _ (by rfl) w.heap.size callZ.vals _ hb0 (by rfl) (by rfl) (by rfl) (by kernel_rfl) (Call.one _) ?_) | fail)
    exact ret_cells2 w.heap.size 0 callZ.vals (.int .i64 22) Tryd.results32 Tryd.underlying57 rfl (by kernel_rfl) rfl rfl (hb0.whole (by rfl)).range rfl ⟨by rw [HS.out]; rfl, Below.setWhole hB0 (Nat.le_refl _) _⟩
  | true =>
    have HS := Lib.hid (show cGet p s = if (∀ k, k < (cFields p).length → cStOk (cFields p) { callZ with proc := p } ⟨s, 0⟩ k = true) ∧ rDone (cSt (cFields p) { callZ with proc := p } ⟨s, 0⟩ (cFields p).length).2 = 0
      then ((cSt (cFields p) { callZ with proc := p } ⟨s, 0⟩ (cFields p).length).1, 0) else (callZ, 14) by simp [cGet, ht])
    go_enter Tryd.func32, Tryd.ntmps32
    go_wp2_with fail
    change Calls _ _ _ (w.alloc (.cells callZ.vals.toArray 57)) _
    generalize w.alloc (.cells callZ.vals.toArray 57) = w0 at *
    refine (there_any _ _).mono ?_
    rintro e w1 ⟨rfl, rfl⟩
    rw [ht]
    go_wp2_with fail
    refine (readNew_any s _).mono ?_
    rintro e w1 ⟨rfl, hR1, hB1⟩
    have hb1 := hb0.stays hB1
    have hBB1 := below_then hB0 hB1
    rw [hs0] at hR1
    have hgl := hR1.lt
    clear hb0 hB0 hB1
    obtain ⟨z, hz⟩ : ∃ z : Call, z = { callZ with proc := p } := ⟨_, rfl⟩
    have hs2 : (w1.alloc (.cells #[.pointer (some ⟨w.heap.size + 1, 0, none⟩)] 75)).heap.size = w1.heap.size + 1 := by simp
    have hH2 := Blk.new w1 75 [.pointer (some ⟨w.heap.size + 1, 0, none⟩)]
    have hZ2 := hb1.alloc (.cells #[.pointer (some ⟨w.heap.size + 1, 0, none⟩)] 75)
    have hX2 := (Below.refl w1.heap.size w1).alloc (Nat.le_refl _) (.cells #[.pointer (some ⟨w.heap.size + 1, 0, none⟩)] 75)
    have hR2 := hR1.stays hX2
    have hB2 := hBB1.alloc hBB1.size (.cells #[.pointer (some ⟨w.heap.size + 1, 0, none⟩)] 75)
    obtain ⟨w2, hw2⟩ : ∃ u, u = w1.alloc (.cells #[.pointer (some ⟨w.heap.size + 1, 0, none⟩)] 75) := ⟨_, rfl⟩
    have hH2' : Blk w2 w1.heap.size 75 [.pointer (some ⟨w.heap.size + 1, 0, none⟩)] := by rw [hw2]; exact hH2
    rw [← hw2] at hZ2 hR2 hB2 hs2
    have hC3 := Blk.new w2 57 z.vals
    have hX3 := (Below.refl w2.heap.size w2).alloc (Nat.le_refl _) (.cells z.vals.toArray 57)
    have hZ3 := hZ2.stays hX3
    have hH3 := hH2'.stays hX3
    have hR3 := hR2.stays hX3
    have hB3 := below_then hB2 hX3
    rw [hs2] at hC3
    obtain ⟨w3, hw3⟩ : ∃ u, u = w2.alloc (.cells z.vals.toArray 57) := ⟨_, rfl⟩
    rw [← hw3] at hC3 hZ3 hH3 hR3 hB3
    have HW2 := Lib.hid hw2
    have HW3 := Lib.hid hw3
    have HZ := Lib.hid hz
    rw [← hz] at HS
    have HAll := Lib.hid (And.intro hC3 (And.intro hZ3 (And.intro hH3 (And.intro hR3 hB3))))
    clear hw2 hw3 hz hC3 hZ3 hH3 hR3 hB3 hX3 hX2 hH2 hH2' hR2 hB2 hZ2 hb1 hBB1 hR1
    go_wp2_with (first
      | (refine wpList_new_struct (by rfl) (by rfl) 57 (by rfl) _ _ (by rfl) z.vals infoCall (by rfl) (by rfl) (Call.one _) (by rfl) (by rw [HZ.out]; rfl) ?_)
      | fail)
    rw [← HW2.out, ← HW3.out]
    obtain ⟨l, hlf⟩ : ∃ l, l = cFields p := ⟨_, rfl⟩
    have HLF := Lib.hid hlf
    rw [← hlf] at HS
    have hlet := fun k (hk : k < (cFields p).length) => cFields_letter p hk
    rw [← hlf] at hlet
    clear hlf
    refine (each_any p 78 [.pointer (some ⟨w1.heap.size, 0, none⟩), .pointer (some ⟨w1.heap.size + 1, 0, none⟩)] w3 (cStOk l z ⟨s, 0⟩) (Getting w w.heap.size (w.heap.size + 1) w1.heap.size (w1.heap.size + 1) l z ⟨s, 0⟩) hcf ?_ ?_ ?_).mono ?_
    · exact fun W h => ⟨HAll.out.2.1.stays h, HAll.out.2.2.2.1.stays h, HAll.out.2.2.1.stays h, HAll.out.1.stays h, below_then HAll.out.2.2.2.2 h⟩
    · exact fun k W b l pos pos' hb h hI => ⟨h.Z.farIter (h.Z.ne_itr hI) _ _, ⟨h.R.1.farIter (h.R.1.ne_itr hI) _ _, h.R.2⟩, h.H.farIter (h.H.ne_itr hI) _ _, h.C.farIter (h.C.ne_itr hI) _ _, Below.setIter h.B (by have := HAll.out.2.2.2.2.size; omega) _ _⟩
    · rw [← HLF.out]
      intro k hk W hS
      exact get1_any w _ _ _ _ (by omega) (by omega) (by omega) l z ⟨s, 0⟩ k hk (hlet k hk) hl W hS
    · rw [← HLF.out]
      rintro e w5 ⟨m, hS, hcase⟩
      rcases hcase with ⟨rfl, hall, rfl⟩ | ⟨j, rfl, hj, hok, hbad, rfl⟩
      · obtain ⟨hZ, hR, hH, hC, hB⟩ := hS
        have hcH := hH.cell
        have rC : rowOf w5 (w1.heap.size + 1) 0 24 = some (cSt l z ⟨s, 0⟩ l.length).1.vals.toArray := hC.row 0 24 (by simp [Call.len])
        generalize cSt l z ⟨s, 0⟩ l.length = x at *
        have HB := Lib.hid hB
        have HR := Lib.hid hR
        have HALL := Lib.hid hall
        clear hcf hlet HLF HAll HW2 HW3 HZ hR hH hC hB hall
        by_cases hd : rDone x.2 = 0
        · have HV := Lib.hid (HS.out.trans (if_pos ⟨HALL.out, hd⟩))
          clear HS HALL
          go_wp2_with fail
          refine (rDone_any (w.heap.size + 1) x.2 _ HR.out).mono ?_
          rintro e w6 ⟨rfl, rfl⟩
          rw [hd]
          go_wp2_with (first | (refine wpList_store_whole (by rfl) 57 _ _ (by rfl) w.heap.size x.1.vals _ hZ (by rfl) (by rfl) (by rfl) (by kernel_rfl) (Call.one _) ?_) | fail)
          exact ret_cells2 w.heap.size 0 x.1.vals (.int .i64 0) Tryd.results32 Tryd.underlying57 rfl (by kernel_rfl) rfl rfl (hZ.whole (by rfl)).range rfl ⟨by rw [HV.out]; rfl, Below.setWhole HB.out (Nat.le_refl _) _⟩
        · have HV := Lib.hid (HS.out.trans (if_neg (fun h => hd h.2)))
          have hd2 : (rDone x.2 != 0) = true := by simpa using hd
          clear HS HALL hd
          go_wp2_with fail
          refine (rDone_any (w.heap.size + 1) x.2 _ HR.out).mono ?_
          rintro e w6 ⟨rfl, rfl⟩
          go_wp2_with (first | (refine wpList_store_whole (by rfl) 57 _ _ (by rfl) w.heap.size callZ.vals _ hZ (by rfl) (by rfl) (by rfl) (by kernel_rfl) (Call.one _) ?_) | fail)
          exact ret_cells2 w.heap.size 0 callZ.vals (.int .i64 14) Tryd.results32 Tryd.underlying57 rfl (by kernel_rfl) rfl rfl (hZ.whole (by rfl)).range rfl ⟨by rw [HV.out]; rfl, Below.setWhole HB.out (Nat.le_refl _) _⟩
      · obtain ⟨hZ, hR, hH, hC, hB⟩ := hS
        have HV := Lib.hid (HS.out.trans (if_neg (fun h => by have := h.1 j hj; rw [hbad] at this; cases this)))
        have HB := Lib.hid hB
        clear hcf hlet HLF HAll HW2 HW3 HZ hok hbad hR hH hC hB HS
        go_wp2_with (first | (refine wpList_store_whole (by rfl) 57 _ _ (by rfl) w.heap.size callZ.vals _ hZ (by rfl) (by rfl) (by rfl) (by kernel_rfl) (Call.one _) ?_) | fail)
        exact ret_cells2 w.heap.size 0 callZ.vals (.int .i64 14) Tryd.results32 Tryd.underlying57 rfl (by kernel_rfl) rfl rfl (hZ.whole (by rfl)).range rfl ⟨by rw [HV.out]; rfl, Below.setWhole HB.out (Nat.le_refl _) _⟩
end Go.Proofs.YthfhdighniiodaaDoor
