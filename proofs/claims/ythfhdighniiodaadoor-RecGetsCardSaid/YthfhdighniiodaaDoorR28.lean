/-
  Layer 17, walks: the changes of a record (written by wip/tools/genrecget2.py). Condition: a machine text.
-/
import Derived.Test.YthfhdighniiodaaDoorR26
import Derived.Test.YthfhdighniiodaaDoorR27
import Derived.Test.YthfhdighniiodaaDoorR16
import Derived.Test.YthfhdighniiodaaDoorR19
namespace Go.Proofs.YthfhdighniiodaaDoor
open Go.RowKit
attribute [local go_sem ↓] Go.wp_at_zero Go.wp_at_succ
attribute [local go_sem] rowAt_ptr rowOf_drew rowOf_drewN rowOf_alloc_past rowOf_new
attribute [local go_sem ↓] ldAttrR ldChange

attribute [local go_sem] Change.at0 Change.lat0 Change.at1 Change.lat1 Change.at2 Change.lat2 Change.at3 Change.lat3 Change.at4 Change.lat4 Change.at5 Change.lat5 Change.at6 Change.lat6 Change.at7 Change.lat7 Change.at8 Change.lat8 Change.at9 Change.lat9 Change.at10 Change.lat10 Change.at11 Change.lat11 Change.at12 Change.lat12 Change.at13 Change.lat13 Change.at14 Change.lat14 Change.at15 Change.lat15 Change.at16 Change.lat16 Change.at17 Change.lat17 Change.sub0_18 Change.lsub0_18 Change.sub6_10 Change.lsub6_10 Change.len Attr.at0 Attr.lat0 Attr.at1 Attr.lat1 Attr.at2 Attr.lat2 Attr.at3 Attr.lat3 Attr.at4 Attr.lat4 Attr.at5 Attr.lat5 Attr.at6 Attr.lat6 Attr.at7 Attr.lat7 Attr.at8 Attr.lat8 Attr.at9 Attr.lat9 Attr.sub0_10 Attr.lsub0_10 Attr.len

theorem Rd.below17 {w w' : World} {g B : Nat} {r : Rs} (h : Rd w g r) (hb : Below B w w') (hg : g < B) : Rd w' g r := ⟨h.1.below hb hg, h.2⟩
theorem rowL_touchM {w w' : World} {B sz : Nat} {e : TypeId} {v : Value} {xs : List Change} {F : Nat → Prop} (h : RowL Change.vals w B e sz v xs) (ht : Touch F w w') (hn : ∀ k, v.ownBlock = some k → ¬ F k) : RowL Change.vals w' B e sz v xs :=
  RowS.touch h ht hn
/-- the changes are none: what holds at the label bad -/
inductive GetBad (w0 : World) (s : List UInt8) : Act → World → Prop
  | mk (u0 u1 u2 u3 u4 u5 u6 u7 u8 u9 u10 u11 u12 u13 u14 u15 u16 u17 u18 u19 u20 u21 u22 u23 u24 u25 u26 u27 u28 u29 u30 u31 u32 u33 u34 u35 u36 u37 u38 u39 u40 u41 u42 u43 u44 u45 u46 u47 u48 u49 u50 u51 : Value) (W : World) (h : rGet s = ([], 14)) (hB : Below w0.heap.size w0 W) : GetBad w0 s { tmps := #[u0, u1, u2, u3, u4, u5, u6, u7, u8, u9, u10, u11, u12, u13, u14, u15, u16, u17, u18, u19, u20, u21, u22, u23, u24, u25, u26, u27, u28, u29, u30, u31, u32, u33, u34, u35, u36, u37, u38, u39, u40, u41, u42, u43, u44, u45, u46, u47, u48, u49, u50, u51], defers := [] } W
/-- what holds at the label end -/
inductive GetEnd (w0 : World) (g : Nat) (r0 : Rs) (n : Nat) : Act → World → Prop
  | mk (u0 u1 u2 u3 u6 u7 u8 u9 u10 u11 u12 u13 u14 u15 u16 u17 u18 u19 u20 u21 u22 u23 u24 u25 u26 u27 u28 u29 u30 u31 u32 u33 u34 u35 u36 u37 u38 u39 u40 u41 u42 u43 u44 u45 u46 u47 u48 u49 u50 u51 v : Value) (xs : List Change) (q : Rs) (W : World) (hd : rSome r0 n = some (xs, q)) (hRow : RowL Change.vals W w0.heap.size 44 18 v xs) (hR : Rd W g q) (hB : Below w0.heap.size w0 W) : GetEnd w0 g r0 n { tmps := #[u0, u1, u2, u3, .pointer (some ⟨g, 0, none⟩), v, u6, u7, u8, u9, u10, u11, u12, u13, u14, u15, u16, u17, u18, u19, u20, u21, u22, u23, u24, u25, u26, u27, u28, u29, u30, u31, u32, u33, u34, u35, u36, u37, u38, u39, u40, u41, u42, u43, u44, u45, u46, u47, u48, u49, u50, u51], defers := [] } W
/-- what holds at the label change -/
inductive GetChg (w0 : World) (g : Nat) (r0 : Rs) (n : Nat) : Act → World → Prop
  | mk (u0 u1 u2 u3 u7 u9 u10 u11 u12 u13 u14 u15 u16 u17 u18 u19 u20 u21 u22 u23 u24 u25 u26 u27 u28 u29 u30 u31 u32 u33 u34 u35 u36 u37 u38 u39 u40 u41 u42 u43 u44 u45 u46 u47 u48 u49 u50 u51 v : Value) (bx m k : Nat) (xs : List Change) (q : Rs) (z : Change) (W : World) (hgx : g < bx) (hkm : k + m = n) (hd : rSome r0 k = some (xs, q)) (hRow : RowL Change.vals W (bx + 1) 44 18 v xs) (hR : Rd W g q) (hX : Blk W bx 44 z.vals) (hsz : bx + 1 ≤ W.heap.size) (hB : Below w0.heap.size w0 W) : GetChg w0 g r0 n { tmps := #[u0, u1, u2, u3, .pointer (some ⟨g, 0, none⟩), v, .pointer (some ⟨bx, 0, none⟩), u7, .int .i64 (m : Int), u9, u10, u11, u12, u13, u14, u15, u16, u17, u18, u19, u20, u21, u22, u23, u24, u25, u26, u27, u28, u29, u30, u31, u32, u33, u34, u35, u36, u37, u38, u39, u40, u41, u42, u43, u44, u45, u46, u47, u48, u49, u50, u51], defers := [] } W
def GetJ (w0 : World) (s : List UInt8) (g : Nat) (r0 : Rs) (n : Nat) : Nat → Act → World → Prop
  | 0 => GetBad w0 s
  | 1 => GetEnd w0 g r0 n
  | 2 => GetChg w0 g r0 n
  | _ => fun _ _ => False
def getM (l : Nat) (a : Act) (_ : World) : Nat := if l = 2 then 2 + (intOf (a.tmps.getD 8 undef)).toNat else l

set_option maxRecDepth 20000 in
set_option maxHeartbeats 3200000 in
theorem recGet_any (s : List UInt8) (w : World) (hl : s.length ≤ 9223372036854775807) :
    Calls Tryd.prog 23 #[.string (bs s)] w fun e w' => ∃ v, e = .returned (.tuple #[v, .int .i64 (rGet s).2]) ∧ RowL Change.vals w' w.heap.size 44 18 v (rGet s).1 ∧ Below w.heap.size w w' := by
  obtain ⟨i0, hi, hz0, hsize, hby⟩ := info_parts infoChange17
  have hrl : (rU32 ⟨s, 0⟩).2.s.length ≤ 9223372036854775807 := Nat.le_trans (rU32_len (r := ⟨s, 0⟩) hl) hl
  have HBAD := Lib.hid (fun k => rGet_bad (s := s) (k := k))
  have HGOOD := Lib.hid (fun x => rGet_good (s := s) (x := x))
  have HERR := Lib.hid (show (rU32 ⟨s, 0⟩).2.e ≠ 0 ∨ 16 < (rU32 ⟨s, 0⟩).1 → rGet s = ([], 14) from fun h => by unfold rGet; rw [if_pos h])
  have HU := Lib.hid (fun g W (hR : Rd W g ⟨s, 0⟩) => rU32_any g ⟨s, 0⟩ W hR hl)
  generalize rU32 ⟨s, 0⟩ = y at *
  obtain ⟨n, r0⟩ := y
  simp only at HBAD HGOOD HERR HU hrl
  by_cases hgo : r0.e = 0 ∧ n ≤ 16
  case neg =>
    have HV := Lib.hid (HERR.out (by
      by_cases he : r0.e = 0
      · exact .inr (by omega)
      · exact .inl he))
    clear HERR HBAD HGOOD
    go_enter Tryd.func23, Tryd.ntmps23
    go_wp2
    refine wp_scope_labels (fun l a W => l = 0 ∧ GetBad w s a W) (fun _ _ _ => 0) ?_ ?_
    · rintro l a W ⟨rfl, hJ⟩
      cases hJ with
      | mk u0 u1 u2 u3 u4 u5 u6 u7 u8 u9 u10 u11 u12 u13 u14 u15 u16 u17 u18 u19 u20 u21 u22 u23 u24 u25 u26 u27 u28 u29 u30 u31 u32 u33 u34 u35 u36 u37 u38 u39 u40 u41 u42 u43 u44 u45 u46 u47 u48 u49 u50 u51 W h hB =>
      refine ⟨_, rfl, ?_⟩
      have HB := Lib.hid hB
      have HH := Lib.hid h
      clear h hB
      go_wp2
      simp only [jumpsTo]
      go_ret2
      rw [HH.out]
      exact ⟨_, rfl, RowS.none_, HB.out⟩
    · intro _
      go_wp2_with fail
      refine (readNew_any s _).mono ?_
      rintro e w1 ⟨rfl, hR1, hB1⟩
      have hX1 := (Below.refl w1.heap.size w1).alloc (Nat.le_refl _) (.cells change0.vals.toArray 44)
      have hR2 := hR1.stays hX1
      have hB2 := below_then hB1 hX1
      obtain ⟨w2, hw2⟩ : ∃ u, u = w1.alloc (.cells change0.vals.toArray 44) := ⟨_, rfl⟩
      rw [← hw2] at hR2 hB2
      have HW2 := Lib.hid hw2
      clear hw2 hX1 hR1 hB1
      go_wp2_with fail
      change Calls _ _ _ (w1.alloc (.cells change0.vals.toArray 44)) _
      rw [← HW2.out]
      refine (HU.out _ _ hR2).mono ?_
      rintro e w3 ⟨rfl, hQ⟩
      have HR3 := Lib.hid hQ.1
      have HB3 := Lib.hid (hB2.trans (hQ.below (B := w.heap.size) (Nat.le_refl _) hB2.size))
      clear hQ hB2 hR2 HU
      go_wp2_with fail
      refine (rErr_any _ _ _ HR3.out).mono ?_
      rintro e w4 ⟨rfl, rfl⟩
      by_cases he : r0.e = 0
      · have h16 : (16 : Int) < (n : Int) := by
          rcases Nat.lt_or_ge 16 n with h | h
          · omega
          · exact absurd ⟨he, h⟩ hgo
        rw [he]
        clear he hgo
        go_wp2_with fail
        go_step3
        exact ⟨rfl, GetBad.mk (h := HV.out) (hB := HB3.out) ..⟩
      · have he2 : (r0.e != 0) = true := by simpa using he
        clear he hgo
        go_wp2_with fail
        go_step3
        exact ⟨rfl, GetBad.mk (h := HV.out) (hB := HB3.out) ..⟩
  case pos =>
  obtain ⟨he, hn16⟩ := hgo
  have HD := Lib.hid (fun k => (rSome_d hrl he k).2)
  have HLEN := Lib.hid (fun k x (h : rSome r0 k = some x) => rSome_len h)
  clear HERR hrl
  go_enter Tryd.func23, Tryd.ntmps23
  go_wp2
  refine wp_scope_labels_into (GetJ w s w.heap.size r0 n) getM 2 _ rfl ?_ ?_ ?_
  · clear HU HGOOD
    intro Jx a W hJ hx
    cases hJ with
    | mk u0 u1 u2 u3 u7 u9 u10 u11 u12 u13 u14 u15 u16 u17 u18 u19 u20 u21 u22 u23 u24 u25 u26 u27 u28 u29 u30 u31 u32 u33 u34 u35 u36 u37 u38 u39 u40 u41 u42 u43 u44 u45 u46 u47 u48 u49 u50 u51 v bx m k xs q z W hgx hkm hd hRow hR hX hsz hB =>
    cases m with
    | zero =>
      go_wp2
      go_step3
      refine hx 1 _ _ (GetEnd.mk (hd := by rw [← hkm]; exact hd) (hRow := RowS.base hRow (by omega)) (hR := hR) (hB := hB) ..) (by simp [getM, intOf])
    | succ m =>
      have hp : IntKind.i64.wrap (((m + 1 : Nat) : Int) - 1) = (m : Int) := by rw [IntWalk.i64_in _ (by omega)]; omega
      obtain ⟨hqs, hqe, hfits⟩ := HD.out k _ hd
      simp only at hqs hqe hfits
      have hxl := HLEN.out k _ hd
      simp only at hxl
      have HN := Lib.hid (rSome_next hd)
      have HST := Lib.hid (fun h => HBAD.out (k + 1) (by omega) (rSome_stop hd h))
      have HFIT := Lib.hid (rOne1_fit hqs).1
      have HF := Lib.hid (fun j hj => (rSt_fit (rLets q) (rLets_letter q) (rKind q) (Nat.le_trans (rU32_len hqs) hqs) (rKind_fit q) j hj).2.2)
      have HOK := Lib.hid (show (∀ j, j < (rLets q).length → rStOk (rLets q) (rKind q) (rU32 q).2 j = true) → rOk (rOne1 q).1 = true → rOneOk q from fun h1 h2 => ⟨h1, h2⟩)
      have HNS := Lib.hid (show ∀ j, j < (rLets q).length → rStOk (rLets q) (rKind q) (rU32 q).2 j = false → ¬ rOneOk q from fun j hj h1 h2 => by rw [h2.1 j hj] at h1; cases h1)
      have HNR := Lib.hid (show rOk (rOne1 q).1 = false → ¬ rOneOk q from fun h1 h2 => by rw [h2.2] at h1; cases h1)
      have hD1 : rOne1 q = rSt (rLets q) (rKind q) (rU32 q).2 (rLets q).length := rfl
      have hKk : (rKind q).vals = (({ change0 with kind := (rU32 q).1 } : Change)).vals := rfl
      have hlet : ∀ c ∈ rLets q, rLetter c.toNat ∧ c.toNat < 128 := rHas_letter (rU32 q).1
      have HLS := Lib.hid (fun u => recHas_any (rU32 q).1 u)
      have hLl : rHas (rU32 q).1 = rLets q := rfl
      rw [hLl] at HLS
      have HSA := Lib.hid (rStOk_at (rLets q) (rKind q) (rU32 q).2)
      have HSS := Lib.hid (rSt_succ (rLets q) (rKind q) (rU32 q).2)
      have hzk : (rKind q).vals[0]? = some (.int .i64 (rU32 q).1) := rfl
      have HU := Lib.hid (rU32_any w.heap.size q W hR hqs)
      generalize rLets q = ls at *
      generalize rKind q = z1 at *
      generalize rU32 q = y at *
      obtain ⟨kd, r1⟩ := y
      simp only at hD1 hKk HU HLS hzk HOK HNS HSA HSS HF
      have HD1 := Lib.hid hD1
      have HZ := Lib.hid hKk
      clear hD1 hKk hLl hd hqs hqe hfits
      go_wp2_with fail
      refine HU.out.mono ?_
      rintro e w2 ⟨rfl, hQ⟩
      have hlo := RowS.lt hRow
      have hX2 := hQ.keeps hX (by omega)
      have hRow2 := rowL_touchM hRow hQ.2 (fun k hk e => by have := (hlo k hk).1; omega)
      have hB2 := hB.trans (hQ.below (B := w.heap.size) (Nat.le_refl _) hB.size)
      have hs2 := Nat.le_trans hsz hQ.2.size
      have tS := Touch.setCells (F := fun k => k = bx) (g := bx) (.inl rfl) z1.vals 0 _ (Touch.refl (fun k => k = bx) w2)
      have hX3 : Blk (w2.setCells bx 0 z1.vals) bx 44 z1.vals := hX2.whole (by rfl)
      have hR3 : Rd (w2.setCells bx 0 z1.vals) w.heap.size r1 := hQ.1.touch tS (by omega)
      have hRow3 := rowL_touchM hRow2 tS (fun k hk e => by have := (hlo k hk).1; omega)
      have hB3 : Below w.heap.size w (w2.setCells bx 0 z1.vals) := Below.setWhole hB2 (by omega) _
      have hs3 := Nat.le_trans hs2 tS.size
      obtain ⟨w3, hw3⟩ : ∃ u, u = w2.setCells bx 0 z1.vals := ⟨_, rfl⟩
      rw [← hw3] at hX3 hR3 hRow3 hB3 hs3
      have HW3 := Lib.hid hw3
      have hcq : w3.cell? ⟨bx, 0, none⟩ = some (.int .i64 kd) := by rw [hX3.cell 0]; exact hzk
      have hI := Itr.new w3 ls
      have hb4 : Below w3.heap.size w3 (w3.iter (bs ls) 0) := (Below.refl _ _).alloc (Nat.le_refl _) (.stringIter (bs ls) 0)
      have HA4 := Lib.hid (And.intro (hR3.stays hb4) (And.intro (hX3.stays hb4) (And.intro (RowS.stays hRow3 hb4) (And.intro (Nat.le_trans hs3 hb4.size) (And.intro (below_then hB3 hb4) hI)))))
      have hib := hs3
      have hge := hB3.size
      clear hw3 hzk hX3 hR3 hRow3 hB3 hs3 tS hQ hRow2 hB2 hs2 hRow hX hR hB hsz hI hb4 HU
      have tok : True := trivial
      go_wp2_with (first
        | (clear tok; refine wpList_store_whole (by rfl) 44 _ _ (by rfl) bx z1.vals _ hX2 (by rfl) (by rfl) (by rw [HZ.out]; rfl) (by kernel_rfl) (Change.one _) ?_; rw [← HW3.out])
        | fail)
      refine (HLS.out _).mono ?_
      rintro e w4 ⟨rfl, rfl⟩
      clear hX2
      go_wp2
      clear hcq HLS HZ HW3
      generalize w3.iter (bs ls) 0 = w4 at *
      generalize w3.heap.size = ib at *
      go_loopw [10] (fun _ wi => ∃ j : Nat, j ≤ ls.length ∧ (∀ i, i < j → rStOk ls z1 r1 i = true) ∧ Rd wi w.heap.size (rSt ls z1 r1 j).2 ∧ Blk wi bx 44 (rSt ls z1 r1 j).1.vals ∧ RowL Change.vals wi (bx + 1) 44 18 v xs ∧ bx + 1 ≤ wi.heap.size ∧ Below w.heap.size w wi ∧ Itr wi ib ls j) (fun _ wi => ls.length - itPos wi ib)
      case atStart => exact ⟨0, Nat.zero_le _, fun _ h => absurd h (Nat.not_lt_zero _), HA4.out.1, HA4.out.2.1, HA4.out.2.2.1, HA4.out.2.2.2.1, HA4.out.2.2.2.2.1, HA4.out.2.2.2.2.2⟩
      case round =>
        clear HA4
        obtain ⟨j, hj, hoks, hR, hX, hRow, hsz, hB, hI⟩ := hrel
        have hgi : w.heap.size ≠ ib := by omega
        have hvi := row_ne_it hRow.2 hI
        by_cases hlj : j < ls.length
        · have hn := fun ty => run_next_itr (P := Tryd.prog) hI hlj (hlet _ (List.getElem_mem hlj)).2 ty
          have hI2 := hI.set_ (j + 1)
          have hp0 := hI.posn
          have hR2 := hR.touch ((Touch.refl (fun k => k = ib) _).setIter (.inl rfl) ls (j + 1)) hgi
          have hX2 := hX.touch ((Touch.refl (fun k => k = ib) _).setIter (.inl rfl) ls (j + 1)) (by omega)
          have hRow2 := rowL_touchM hRow ((Touch.refl (fun k => k = ib) _).setIter (.inl rfl) ls (j + 1)) (fun k hk e => hvi (by rw [hk, e]))
          have hB2 := Below.setIter hB (b := ib) hge ls (j + 1)
          have hs2 := Nat.le_trans hsz ((Touch.refl (fun k => k = ib) _).setIter (.inl rfl) ls (j + 1)).size
          have hlo := RowS.lt hRow2
          have hl := (hlet _ (List.getElem_mem hlj)).1
          have hfl := HF.out j hj
          have hsa := HSA.out j hlj
          have hss := HSS.out j hlj
          have HNSj := Lib.hid (HNS.out j hlj)
          clear hI hR hX hRow hB hsz hvi
          generalize ls[j].toNat = cc at *
          generalize hxe : rSt ls z1 r1 j = x at *
          have HSA2 := Lib.hid hsa
          have HSS2 := Lib.hid hss
          have HXE := Lib.hid hxe
          clear hsa hss hxe
          go_wp2_with fail
          refine (rtake_any w.heap.size bx x.1 x.2 cc hl _ hR2 hX2 hfl).mono ?_
          rintro e w5 ⟨rfl, hT⟩
          have hI5 := hI2.touch hT.T (by omega)
          have hRow5 := rowL_touchM hRow2 hT.T (fun k hk e => by have := (hlo k hk).1; omega)
          have hB5 := hB2.trans (hT.T.below (fun k _ hk => by omega) hB2.size)
          have hs5 := Nat.le_trans hs2 hT.T.size
          have hR5 := hT.R
          have hX5 := hT.C
          have hp5 := hI5.posn
          cases hok : rTkOk cc x.2 with
          | true =>
            have HP := Lib.hid (show ∀ i, i < j + 1 → rStOk ls z1 r1 i = true from fun i h => by
              rcases Nat.lt_or_ge i j with h2 | h2
              · exact hoks i h2
              · obtain rfl : i = j := by omega
                exact HSA2.out.trans hok)
            rw [← HSS2.out] at hR5 hX5
            clear hn hI2 hR2 hX2 hRow2 hB2 hs2 hoks hok hT hlo
            go_wp2
            go_roundw
            case rel => exact ⟨j + 1, by omega, HP.out, hR5, hX5, hRow5, hs5, hB5, hI5⟩
            case measure => rw [hp0, hp5]; omega
          | false =>
            have HV := Lib.hid (HST.out (HNSj.out (HSA2.out.trans hok)))
            have HB5 := Lib.hid hB5
            clear hn hI2 hR2 hX2 hRow2 hB2 hs2 hoks hok hT hlo hR5 hX5 hRow5 hB5 hs5 hI5
            go_wp2
            go_step3
            exact hx 0 _ _ (GetBad.mk (h := HV.out) (hB := HB5.out) ..) (by simp [getM]; omega)
        · have hn := fun ty => run_next_itr_end (P := Tryd.prog) hI hlj ty
          obtain rfl : j = ls.length := by omega
          have HKS := Lib.hid (HOK.out (fun i h => hoks i h))
          have hge2 := HFIT.out
          rw [← HD1.out] at hR hX
          clear hI hvi hoks HF HSA HSS HNS HD1 hlet HOK
          generalize rOne1 q = x at *
          have rC : rowOf _ bx 0 18 = some x.1.vals.toArray := hX.row 0 18 (by simp [Change.len])
          have hck := fun u => check17_any x.1 u hge2.2
          unfold rCheck at hck
          cases hro : rOk x.1 with
          | false =>
            rw [hro] at hck
            have HV := Lib.hid (HST.out (HNR.out hro))
            have HB5 := Lib.hid hB
            have HCK := Lib.hid hck
            clear hro hck hR hX hRow hB hsz HN HST HNR HKS hge2
            go_wp2_with fail
            refine (HCK.out _).mono ?_
            rintro e w6 ⟨rfl, hx6⟩
            have HB6 := Lib.hid (below_then HB5.out hx6)
            clear hx6 HB5
            go_wp2
            go_step3
            exact hx 0 _ _ (GetBad.mk (h := HV.out) (hB := HB6.out) ..) (by simp [getM]; omega)
          | true =>
            rw [hro] at hck
            have HV := Lib.hid (HN.out (HKS.out hro))
            have HCK := Lib.hid hck
            clear hro hck HN HST HNR HKS hge2
            go_wp2_with fail
            refine (HCK.out _).mono ?_
            rintro e w6 ⟨rfl, hx6⟩
            have hR6 := hR.stays hx6
            have hX6 := hX.stays hx6
            have hRow6 := RowS.stays hRow hx6
            have hB6 := below_then hB hx6
            have hs6 := Nat.le_trans hsz hx6.size
            have rC6 : rowOf w6 bx 0 18 = some x.1.vals.toArray := hX6.row 0 18 (by simp [Change.len])
            have hap := RowS.append (P := Tryd.prog) 37 37 i0 Tryd.underlying37 hi hz0 hsize hby rfl (by omega) (by omega) hRow6 (by omega) x.1.vals (Change.len _) (Change.one _) (by rw [List.length_map]; omega)
            rw [map_snoc] at hap
            have HA := Lib.hid hap
            have HK6 := Lib.hid (And.intro hR6 (And.intro hX6 (And.intro hB6 hs6)))
            clear hap hx6 hR hX hRow hB hR6 hX6 hRow6 hB6 hs6 rC hn hsz
            go_wp2_with (first
              | (refine wpList_buildSlice_one (by rfl) 37 44 (.tmp 45) (by rfl) x.1.vals (by rfl) Tryd.underlying37 i0 _ hi hz0 rfl hsize (by rw [Change.len]; omega) (by rw [Change.len]; omega) ?_)
              | (refine wpList_append_by (by rfl) (.tmp 44) (.tmp 46) #[37, 37] (by rfl) _ _ (by rfl) (by rfl) HA.out ?_; rintro v' w' ⟨hR', hb'⟩)
              | fail)
            have hb1 := hb' w6 (Below.refl _ _)
            have HR := Lib.hid hR'
            have HQ := Lib.hid (HK6.out.1.below17 hb1 (by omega))
            have HX := Lib.hid (HK6.out.2.1.below hb1 (Nat.lt_succ_self _))
            have HB := Lib.hid (show Below w.heap.size w w' from HK6.out.2.2.1.trans ⟨hb1.os, hb1.tape, hb1.output, hb1.size, fun k hk => hb1.block k (by omega)⟩)
            have HSZ := Lib.hid (Nat.le_trans HK6.out.2.2.2 hb1.size)
            clear hR' hb' hb1 HK6 HA
            go_step3
            exact hx 2 _ _ (GetChg.mk (m := m) (k := k + 1) (hgx := hgx) (hkm := by omega) (hd := HV.out) (hRow := HR.out) (hR := HQ.out) (hX := HX.out) (hsz := HSZ.out) (hB := HB.out) ..) (by simp [getM, intOf])
  · intro l a W hne hJ
    rcases l with _ | _ | _ | l
    · cases hJ with
      | mk u0 u1 u2 u3 u4 u5 u6 u7 u8 u9 u10 u11 u12 u13 u14 u15 u16 u17 u18 u19 u20 u21 u22 u23 u24 u25 u26 u27 u28 u29 u30 u31 u32 u33 u34 u35 u36 u37 u38 u39 u40 u41 u42 u43 u44 u45 u46 u47 u48 u49 u50 u51 W h hB =>
      refine ⟨_, rfl, ?_⟩
      have HB := Lib.hid hB
      have HH := Lib.hid h
      clear h hB
      go_wp2
      simp only [jumpsTo]
      go_ret2
      rw [HH.out]
      exact ⟨_, rfl, RowS.none_, HB.out⟩
    · cases hJ with
      | mk u0 u1 u2 u3 u6 u7 u8 u9 u10 u11 u12 u13 u14 u15 u16 u17 u18 u19 u20 u21 u22 u23 u24 u25 u26 u27 u28 u29 u30 u31 u32 u33 u34 u35 u36 u37 u38 u39 u40 u41 u42 u43 u44 u45 u46 u47 u48 u49 u50 u51 v xs q W hd hRow hR hB =>
      refine ⟨_, rfl, ?_⟩
      have HG := Lib.hid (HGOOD.out _ he (by omega) hd)
      have HRow := Lib.hid hRow
      have HB := Lib.hid hB
      clear hRow hB hd HGOOD HBAD
      go_wp2_with fail
      refine (rDone_any _ q _ hR).mono ?_
      rintro e w2 ⟨rfl, rfl⟩
      by_cases hz : rDone q = 0
      · have HV := Lib.hid (HG.out.trans (if_pos hz))
        rw [hz]
        clear hz HG
        go_wp2
        simp only [jumpsTo]
        go_ret2
        rw [HV.out]
        exact ⟨_, rfl, HRow.out, HB.out⟩
      · have HV := Lib.hid (HG.out.trans (if_neg hz))
        have hz2 : (rDone q == 0) = false := beq_false_of_ne hz
        clear hz HG
        go_wp2
        go_step3
        go_wp2
        simp only [jumpsTo]
        go_ret2
        rw [HV.out]
        exact ⟨_, rfl, RowS.none_, HB.out⟩
    · exact absurd rfl hne
    · exact absurd hJ id
  · intro hfall
    go_wp2_with fail
    refine (readNew_any s _).mono ?_
    rintro e w1 ⟨rfl, hR1, hB1⟩
    have hX1 := (Below.refl w1.heap.size w1).alloc (Nat.le_refl _) (.cells change0.vals.toArray 44)
    have hR2 := hR1.stays hX1
    have hB2 := below_then hB1 hX1
    have hZ2 := Blk.new w1 44 change0.vals
    have hlt1 := hR1.lt
    have hs2 : w1.heap.size + 1 ≤ (w1.alloc (.cells change0.vals.toArray 44)).heap.size := by simp
    obtain ⟨w2, hw2⟩ : ∃ u, u = w1.alloc (.cells change0.vals.toArray 44) := ⟨_, rfl⟩
    rw [← hw2] at hR2 hB2 hZ2 hs2
    have HW2 := Lib.hid hw2
    clear hw2 hX1 hR1 hB1
    go_wp2_with fail
    change Calls _ _ _ (w1.alloc (.cells change0.vals.toArray 44)) _
    rw [← HW2.out]
    refine (HU.out _ _ hR2).mono ?_
    rintro e w3 ⟨rfl, hQ⟩
    have hZ3 := hQ.keeps hZ2 (by omega)
    have hs3 := Nat.le_trans hs2 hQ.2.size
    have HR3 := Lib.hid hQ.1
    have HB3 := Lib.hid (hB2.trans (hQ.below (B := w.heap.size) (Nat.le_refl _) hB2.size))
    clear hQ hB2 hR2 HU hZ2 hs2
    go_wp2_with fail
    refine (rErr_any _ _ _ HR3.out).mono ?_
    rintro e w4 ⟨rfl, rfl⟩
    have h16 : ¬ (16 : Int) < (n : Int) := by omega
    rw [he]
    go_wp2_with fail
    go_step3
    refine (by assumption : ∀ (a : Act) (w : World), Code.wp _ _ _ a w → _) _ _ ?_
    exact hfall _ _ (GetChg.mk (v := .slice none 0 0) (bx := w1.heap.size) (m := n) (k := 0) (xs := []) (q := r0) (z := change0) (hgx := hlt1) (hkm := by omega) (hd := rfl) (hRow := RowS.none_) (hR := HR3.out) (hX := hZ3) (hsz := hs3) (hB := HB3.out) ..)
end Go.Proofs.YthfhdighniiodaaDoor