/-
  Layer 22, walks: how the program looks whether a directory may be, exact. Conditions: a tree that is not too large.
-/
import Derived.Test.YtgifmpobokaejaaGreatDoorM39
import Derived.Test.YtgifmpobokaejaaGreatDoorM40
import Derived.Test.YtgifmpobokaejaaGreatDoorM37
import Derived.Test.YtgifmpobokaejaaGreatDoorM21
import Derived.Test.YtgifmpobokaejaaGreatDoorM06
namespace Go.Proofs.YtgifmpobokaejaaGreatDoor
open Go.RowKit
open Go.RowKit
attribute [local go_sem ↓] Go.wp_at_zero Go.wp_at_succ
attribute [local go_sem] rowAt_ptr rowOf_drew rowOf_drewN rowOf_alloc_past rowOf_new
attribute [local go_sem ↓] ldNode22 ldTree22 ldAttrR ldEntry

set_option maxRecDepth 20000 in
set_option maxHeartbeats 3200000 in
theorem lookDirectory_iff (t : Tr) (ps : List (Nd × List Entry)) (n : Nd) (es : List Entry) (w : World) (hT : TreeH w t ps) (hen : n.en = es.length) (h70 : es.length ≤ 70) (hec : es.length ≤ n.ec) (hnm : ∀ x ∈ es, x.name.length ≤ 300) (hd : (dataL n).length ≤ 1048576) (hE : At w 15 n.ea (es.map Entry.vals)) :
    Calls Tryz.prog 97 #[t.val, .agg n.vals.toArray] w (TellsP (DirOk (comesG t.ns) ps t.ns n es) w) := by
  obtain ⟨bT, bN, hB, hs⟩ := chain2_blks w t.vals n.vals 26 65
  obtain ⟨w1, hw1⟩ : ∃ V, V = (w.alloc (.cells t.vals.toArray 26)).alloc (.cells n.vals.toArray 65) := ⟨_, rfl⟩
  rw [← hw1] at bT bN hB hs
  have c5 : w1.cell? ⟨w.heap.size, 5, none⟩ = some (.slice t.na t.ns.length t.nc) := bT.cell 5
  have rT : rowOf w1 w.heap.size 0 6 = some t.vals.toArray := bT.row 0 6 (by rw [Tr.len]; omega)
  have cE : w1.cell? ⟨w.heap.size + 1, 14, none⟩ = some (.slice n.ea es.length n.ec) := by rw [bN.cell 14, ← hen]; rfl
  have cL : w1.cell? ⟨w.heap.size + 1, 13, none⟩ = some (.int .i64 n.last) := bN.cell 13
  have cP : w1.cell? ⟨w.heap.size + 1, 12, none⟩ = some (.int .i64 n.parent) := bN.cell 12
  have cV : w1.cell? ⟨w.heap.size + 1, 11, none⟩ = some (.int .i64 n.verf) := bN.cell 11
  have cD : w1.cell? ⟨w.heap.size + 1, 10, none⟩ = some (.string (bs (dataL n))) := by rw [← dataL_is]; exact bN.cell 10
  have cG : w1.cell? ⟨w.heap.size + 1, 7, none⟩ = some (.int .i64 n.attr.gen) := bN.cell 7
  have cK : w1.cell? ⟨w.heap.size + 1, 2, none⟩ = some (.int .i64 n.attr.nlink) := bN.cell 2
  have rN : rowOf w1 (w.heap.size + 1) 0 15 = some n.vals.toArray := bN.row 0 15 (by rw [Nd.len]; omega)
  have hlT := bT.lt
  have hlN := bN.lt
  have hl := hT.len
  have HW1 := Lib.hid hw1
  have HT := Lib.hid (hT.below hB)
  have HE := Lib.hid (hE.below hB)
  have KO := Lib.hid (fun W (h : Below w1.heap.size w1 W) g => lookOf_any t g W hl (HT.out.at_.below h))
  have KC := Lib.hid (fun W (h : Below w1.heap.size w1 W) => nodeCheck_iff n.ea n.ec es W h70 hec hnm (HE.out.below h))
  have KN := Lib.hid (fun W (h : Below w1.heap.size w1 W) => lookNamed_iff t ps n.attr.gen W (HT.out.below h))
  have KM := Lib.hid (fun W (h : Below w1.heap.size w1 W) => lookComes_any t n W (Nat.le_trans HT.out.few.1 (by omega)) (HT.out.at_.below h))
  have HPL := Lib.hid (fun g (h : ¬ placeOf t.ns g < 0) => placeOf_at (ns := t.ns) (gen := g) h)
  have HB := Lib.hid hB
  have HDL := Lib.hid (show n.data.size = (dataL n).length from (dataL_len n).symm)
  have hl70 := hT.few.1
  obtain ⟨D, hD⟩ : ∃ D : Prop, D = DirOk (comesG t.ns) ps t.ns n es := ⟨_, rfl⟩
  have HD := Lib.hid hD
  rw [← hD]
  obtain ⟨LO, hLO⟩ : ∃ L : Int, L = linksOf t.ns es := ⟨_, rfl⟩
  have HLO := Lib.hid hLO
  have HL0 := Lib.hid (show linksK t.ns (es.drop 0) 2 = LO by rw [hLO, List.drop_zero]; rfl)
  clear hw1 bT bN hs hT hE hB hen hnm hD hLO
  generalize dataL n = dl at *
  have hsz := bs_size dl
  unfold Tr.val at KO KN KM ⊢
  go_enter Tryz.func97, Tryz.ntmps97
  go_upto_region 1 with fail
  change Code.wp _ _ _ _ ((w.alloc (.cells t.vals.toArray 26)).alloc (.cells n.vals.toArray 65))
  rw [← HW1.out]
  have H1 := Lib.hid (And.intro c5 (And.intro rT (And.intro cE (And.intro cL (And.intro cP (And.intro cV (And.intro cD (And.intro cG (And.intro cK rN)))))))))
  clear HW1
  go_wp2
  go_loopw [5, 14] (fun a i wr => ∃ (x : Int) (k : Nat), a = .int .i64 x ∧ k ≤ es.length ∧ i = .int .i64 k ∧ (∀ y ∈ es.take k, 1 ≤ placeOf t.ns y.gen ∧ y.cookie ≤ n.last) ∧ 2 ≤ x ∧ x ≤ 2 + k ∧ linksK t.ns (es.drop k) x = LO ∧ Below w1.heap.size w1 wr) (fun _ i _ => es.length - (intOf i).toNat)
  case atStart => exact ⟨2, 0, rfl, Nat.zero_le _, rfl, (by simp), by omega, by omega, HL0.out, Below.refl _ _⟩
  case round =>
    obtain ⟨x, k, rfl, hk, rfl, hok, hx0, hx1, hlk, hb⟩ := hrel
    have HLK := Lib.hid hlk
    clear hlk HL0
    obtain ⟨c5, rT, cE, cL, cP, cV, cD, cG, cK, rN⟩ := H1.out
    replace c5 := (hb.cell (p := ⟨w.heap.size, 5, none⟩) hlT).trans c5
    replace rT := (rowOf_below hb hlT 0 6).trans rT
    replace cE := (hb.cell (p := ⟨w.heap.size + 1, 14, none⟩) hlN).trans cE
    replace cL := (hb.cell (p := ⟨w.heap.size + 1, 13, none⟩) hlN).trans cL
    replace cP := (hb.cell (p := ⟨w.heap.size + 1, 12, none⟩) hlN).trans cP
    replace cV := (hb.cell (p := ⟨w.heap.size + 1, 11, none⟩) hlN).trans cV
    replace cD := (hb.cell (p := ⟨w.heap.size + 1, 10, none⟩) hlN).trans cD
    replace cG := (hb.cell (p := ⟨w.heap.size + 1, 7, none⟩) hlN).trans cG
    replace cK := (hb.cell (p := ⟨w.heap.size + 1, 2, none⟩) hlN).trans cK
    replace rN := (rowOf_below hb hlN 0 15).trans rN
    have hlT2 := Nat.lt_of_lt_of_le hlT hb.size
    have hlN2 := Nat.lt_of_lt_of_le hlN hb.size
    by_cases hlt : k < es.length
    · obtain ⟨be, oe, hea, hbe, re, -⟩ := rowCell8 Entry.len (by decide) (HE.out.below hb) hlt
      rw [hea]
      have hk0 : (0 : Int) ≤ (k : Int) := Int.natCast_nonneg _
      have hk1 : (k : Int) < (es.length : Int) := by omega
      have hiw : IntKind.i64.wrap ((k : Int) + 1) = ((k + 1 : Nat) : Int) := by rw [IntWalk.i64_in _ (by omega)]; omega
      have hxw : IntKind.i64.wrap (x + 1) = x + 1 := IntWalk.i64_in _ (by omega)
      have HNX := Lib.hid (fun (h : 1 ≤ placeOf t.ns es[k].gen ∧ es[k].cookie ≤ n.last) => (show ∀ y ∈ es.take (k + 1), 1 ≤ placeOf t.ns y.gen ∧ y.cookie ≤ n.last by
        intro y hy
        rw [take_next _ _ hlt] at hy
        rcases List.mem_append.1 hy with hy | hy
        · exact hok y hy
        · simp only [List.mem_singleton] at hy
          subst hy
          exact h))
      have HIF := Lib.hid (fun (h : D) => (show 1 ≤ placeOf t.ns es[k].gen ∧ es[k].cookie ≤ n.last by
        rw [HD.out] at h
        exact h.1 _ (List.getElem_mem hlt)))
      have HLN := Lib.hid (fun (p : Nd) (hp : nodeAt t.ns (placeOf t.ns es[k].gen) = p) => (show linksK t.ns (es.drop (k + 1)) (if p.attr.type = 2 then x + 1 else x) = LO by
        rw [← hp, ← linksK_at hlt]
        exact HLK.out))
      have HPk := Lib.hid (fun (h : ¬ placeOf t.ns es[k].gen < 0) => HPL.out es[k].gen (by omega))
      have KOk := Lib.hid (fun W (h : Below w1.heap.size w1 W) => KO.out W h es[k].gen)
      have HBr := Lib.hid hb
      generalize es[k] = ek at *
      generalize placeOf t.ns ek.gen = pl at *
      have bE := Blk.new wr 80 ek.vals
      have hbE : Below wr.heap.size wr (wr.alloc (.cells ek.vals.toArray 80)) := (Below.refl _ _).alloc (Nat.le_refl _) _
      clear hb hok cP cV cD cG cK hea HLK cE rN
      go_upto_region 5 with (first | (refine wpList_new_struct (by rfl) (by rfl) 80 (by rfl) _ _ (by rfl) ek.vals infoEntry2 (by rfl) (by rfl) (Entry.one _) (by rfl) (by rfl) ?_) | fail)
      generalize wr.alloc (.cells ek.vals.toArray 80) = w3 at *
      have e0 : w3.cell? ⟨wr.heap.size, 0, none⟩ = some (.int .i64 ek.gen) := bE.cell 0
      have e2 : w3.cell? ⟨wr.heap.size, 2, none⟩ = some (.int .i64 ek.cookie) := bE.cell 2
      have hlE := bE.lt
      replace c5 := (hbE.cell (p := ⟨w.heap.size, 5, none⟩) hlT2).trans c5
      replace rT := (rowOf_below hbE hlT2 0 6).trans rT
      replace cL := (hbE.cell (p := ⟨w.heap.size + 1, 13, none⟩) hlN2).trans cL
      have hlT3 := Nat.lt_of_lt_of_le hlT2 hbE.size
      have hlN3 := Nat.lt_of_lt_of_le hlN2 hbE.size
      have HB3 := Lib.hid (HBr.out.trans (hbE.mono HBr.out.size))
      clear bE hbE re
      go_wp2_with fail
      refine (KOk.out _ HB3.out).mono ?_
      rintro e w4 ⟨rfl, hb⟩
      replace c5 := (hb.cell (p := ⟨w.heap.size, 5, none⟩) hlT3).trans c5
      replace cL := (hb.cell (p := ⟨w.heap.size + 1, 13, none⟩) hlN3).trans cL
      replace e2 := (hb.cell (p := ⟨wr.heap.size, 2, none⟩) hlE).trans e2
      have HB4 := Lib.hid (HB3.out.trans (hb.mono HB3.out.size))
      clear hb rT e0 KOk
      by_cases hp : pl < 1
      · have HF := Lib.hid (show Below w.heap.size w w4 from below_then HB.out HB4.out)
        have HQ := Lib.hid (show ¬ D from fun h => absurd (HIF.out h).1 (by omega))
        clear HIF
        go_wp2
        go_ret
        exact TellsP.no HQ.out HF.out
      obtain ⟨p, hp1, hp2, hp3, -⟩ := HPk.out (by omega)
      have HL2 := Lib.hid (HLN.out _ hp3)
      clear hp3 HLN
      subst hp1
      have hpn : 1 ≤ p := by omega
      have hpd : decide ((p : Int) < 1) = false := decide_eq_false hp
      by_cases hck : n.last < ek.cookie
      · have HF := Lib.hid (show Below w.heap.size w w4 from below_then HB.out HB4.out)
        have HQ := Lib.hid (show ¬ D from fun h => absurd (HIF.out h).2 (by omega))
        clear HIF
        go_wp2
        go_ret
        exact TellsP.no HQ.out HF.out
      have HOK := Lib.hid (HNX.out ⟨by omega, by omega⟩)
      obtain ⟨b1, o1, hna, hb1, -, cn⟩ := rowCell8 Nd.len (by decide) (HT.out.at_.below HB4.out) hp2
      have ct := cn 0 _ rfl
      replace ct : w4.cell? ⟨b1, o1 + p * 15, none⟩ = some (.int .i64 t.ns[p].attr.type) := ct
      rw [hna] at c5
      have hpi0 : (0 : Int) ≤ (p : Int) := Int.natCast_nonneg _
      have hpi1 : (p : Int) < (t.ns.length : Int) := by omega
      have hckd : decide (n.last < ek.cookie) = false := decide_eq_false hck
      generalize t.ns[p].attr.type = ty at *
      clear cn HPk HNX hna HIF
      by_cases hty : ty = 2
      · have HL3 := Lib.hid (show linksK t.ns (es.drop (k + 1)) (x + 1) = LO by have h := HL2.out; rw [if_pos hty] at h; exact h)
        subst hty
        clear HL2
        go_wp2
        go_roundw
        case rel => first
          | exact ⟨_, k + 1, rfl, by omega, by first | rfl | go_num, HOK.out, by omega, by omega, HL3.out, HB4.out⟩
          | (repeat apply Exists.intro
             refine ⟨?_, rfl⟩
             exact ⟨_, k + 1, rfl, by omega, by first | rfl | go_num, HOK.out, by omega, by omega, HL3.out, HB4.out⟩)
        case measure => simp [intOf]; omega
      · have HL3 := Lib.hid (show linksK t.ns (es.drop (k + 1)) x = LO by have h := HL2.out; rw [if_neg hty] at h; exact h)
        have hty2 : (ty == 2) = false := by simpa using hty
        clear HL2 hty
        go_wp2
        go_roundw
        case rel => first
          | exact ⟨_, k + 1, rfl, by omega, by first | rfl | go_num, HOK.out, by omega, by omega, HL3.out, HB4.out⟩
          | (repeat apply Exists.intro
             refine ⟨?_, rfl⟩
             exact ⟨_, k + 1, rfl, by omega, by first | rfl | go_num, HOK.out, by omega, by omega, HL3.out, HB4.out⟩)
        case measure => simp [intOf]; omega
    · obtain rfl : k = es.length := by omega
      have hlm : ¬ (es.length : Int) < (es.length : Int) := by omega
      rw [List.take_length] at hok
      have HOK := Lib.hid hok
      have HBr := Lib.hid hb
      have hxl : x = LO := by
        have h := HLK.out
        rw [linksK_end (Nat.le_refl _)] at h
        exact h
      have HIF := Lib.hid (show D ↔ (EntsOk es ∧ n.attr.nlink = x ∧ dl.length = 0 ∧ n.verf = 0 ∧ (n.attr.gen = 1 → n.parent = 1) ∧ (n.attr.gen ≠ 1 → (named ps n.attr.gen).1 = 1 ∧ (named ps n.attr.gen).2 = n.parent ∧ comesP t.ns t.ns.length n = true)) by
        rw [HD.out, hxl, HLO.out, ← HDL.out]
        exact ⟨fun h => h.2, fun h => ⟨hok, h⟩⟩)
      clear hok hb HLK hxl
      go_wp2_with fail
      refine (KC.out _ HBr.out).mono ?_
      rintro e w4 ⟨v, rfl, hv0, hg, hb⟩
      replace c5 := (hb.cell (p := ⟨w.heap.size, 5, none⟩) hlT2).trans c5
      replace rT := (rowOf_below hb hlT2 0 6).trans rT
      replace cP := (hb.cell (p := ⟨w.heap.size + 1, 12, none⟩) hlN2).trans cP
      replace cV := (hb.cell (p := ⟨w.heap.size + 1, 11, none⟩) hlN2).trans cV
      replace cD := (hb.cell (p := ⟨w.heap.size + 1, 10, none⟩) hlN2).trans cD
      replace cG := (hb.cell (p := ⟨w.heap.size + 1, 7, none⟩) hlN2).trans cG
      replace cK := (hb.cell (p := ⟨w.heap.size + 1, 2, none⟩) hlN2).trans cK
      replace rN := (rowOf_below hb hlN2 0 15).trans rN
      have hlT3 := Nat.lt_of_lt_of_le hlT2 hb.size
      have hlN3 := Nat.lt_of_lt_of_le hlN2 hb.size
      have HB4 := Lib.hid (HBr.out.trans (hb.mono HBr.out.size))
      have HF := Lib.hid (show Below w.heap.size w w4 from below_then HB.out HB4.out)
      clear hb cE cL HBr
      rcases hv0 with hv0 | hv0
      case inr =>
        have HQ := Lib.hid (show ¬ D from fun h => by have := hg.2 (HIF.out.1 h).1; omega)
        subst hv0
        clear HIF hg
        go_wp2
        go_ret
        exact TellsP.no HQ.out HF.out
      have HE1 := Lib.hid (hg.1 hv0)
      subst hv0
      clear hg
      by_cases q1 : n.attr.nlink = x
      case neg =>
        have q1b : (n.attr.nlink != x) = true := by simpa using q1
        have HQ := Lib.hid (show ¬ D from fun h => q1 (HIF.out.1 h).2.1)
        clear HIF q1
        go_wp2
        go_ret
        exact TellsP.no HQ.out HF.out
      have q1b : (n.attr.nlink != x) = false := by simpa using q1
      by_cases q2 : dl.length = 0
      case neg =>
        have q2b : dl ≠ [] := fun h => q2 (by rw [h]; rfl)
        have q2c : dl.isEmpty = false := by simpa using q2b
        have q2d : (dl != []) = true := by simpa using q2b
        have q2e : (dl == []) = false := by simpa using q2b
        have HQ := Lib.hid (show ¬ D from fun h => q2 (HIF.out.1 h).2.2.1)
        clear HIF q2 q1
        go_wp2
        go_ret
        exact TellsP.no HQ.out HF.out
      obtain rfl : dl = [] := List.eq_nil_of_length_eq_zero q2
      by_cases q3 : n.verf = 0
      case neg =>
        have q3b : (n.verf != 0) = true := by simpa using q3
        have HQ := Lib.hid (show ¬ D from fun h => q3 (HIF.out.1 h).2.2.2.1)
        clear HIF q3 q2 q1
        go_wp2
        go_ret
        exact TellsP.no HQ.out HF.out
      have q3b : (n.verf != 0) = false := by simpa using q3
      have HI2 := Lib.hid (show D ↔ ((n.attr.gen = 1 → n.parent = 1) ∧ (n.attr.gen ≠ 1 → (named ps n.attr.gen).1 = 1 ∧ (named ps n.attr.gen).2 = n.parent ∧ comesP t.ns t.ns.length n = true)) from
        ⟨fun h => (HIF.out.1 h).2.2.2.2, fun h => HIF.out.2 ⟨HE1.out, q1, q2, q3, h⟩⟩)
      clear HIF q1 q2 q3
      by_cases q4 : n.attr.gen = 1
      · have q4b : (n.attr.gen == 1) = true := by simpa using q4
        by_cases q5 : n.parent = 1
        · have HQ := Lib.hid (show D from HI2.out.2 ⟨fun _ => q5, fun h => absurd q4 h⟩)
          have q5b : (n.parent == 1) = true := by simpa using q5
          clear HI2 q4 q5
          go_wp2
          go_ret
          exact TellsP.yes HQ.out HF.out
        · have HQ := Lib.hid (show ¬ D from fun h => q5 ((HI2.out.1 h).1 q4))
          have q5b : (n.parent == 1) = false := by simpa using q5
          clear HI2 q4 q5
          go_wp2
          go_ret
          exact TellsP.no HQ.out HF.out
      have q4b : (n.attr.gen == 1) = false := by simpa using q4
      have HI3 := Lib.hid (show D ↔ ((named ps n.attr.gen).1 = 1 ∧ (named ps n.attr.gen).2 = n.parent ∧ comesP t.ns t.ns.length n = true) from
        ⟨fun h => (HI2.out.1 h).2 q4, fun h => HI2.out.2 ⟨fun h2 => absurd h2 q4, fun _ => h⟩⟩)
      have KNx := Lib.hid (KN.out w4 HB4.out)
      generalize named ps n.attr.gen = R at *
      obtain ⟨y, d⟩ := R
      clear HI2 q4 KN
      go_wp2_with fail
      refine KNx.out.mono ?_
      rintro e w5 ⟨rfl, hb⟩
      replace c5 := (hb.cell (p := ⟨w.heap.size, 5, none⟩) hlT3).trans c5
      replace rT := (rowOf_below hb hlT3 0 6).trans rT
      replace cP := (hb.cell (p := ⟨w.heap.size + 1, 12, none⟩) hlN3).trans cP
      have hlT4 := Nat.lt_of_lt_of_le hlT3 hb.size
      have HB5 := Lib.hid (HB4.out.trans (hb.mono HB4.out.size))
      replace HF := Lib.hid (show Below w.heap.size w w5 from below_then HB.out HB5.out)
      have hb5 := hb
      clear hb cV cD cG cK KNx
      replace rN := (rowOf_below hb5 hlN3 0 15).trans rN
      have KMx := Lib.hid (KM.out w5 HB5.out)
      obtain ⟨cm, hcm⟩ : ∃ b, b = comesP t.ns t.ns.length n := ⟨_, rfl⟩
      have HI4 := Lib.hid (show D ↔ (y = 1 ∧ d = n.parent ∧ cm = true) by rw [hcm]; exact HI3.out)
      rw [← hcm] at KMx
      clear HI3 hb5 hcm KM
      by_cases hy : y = 1
      case neg =>
        have hy1 : (y == 1) = false := by simpa using hy
        have HQ := Lib.hid (show ¬ D from fun h => hy (HI4.out.1 h).1)
        clear HI4 hy
        go_wp2
        go_ret
        exact TellsP.no HQ.out HF.out
      have hy1 : (y == 1) = true := by simpa using hy
      by_cases hd : d = n.parent
      case neg =>
        have hd1 : (d == n.parent) = false := by simpa using hd
        have HQ := Lib.hid (show ¬ D from fun h => hd (HI4.out.1 h).2.1)
        clear HI4 hd hy
        go_wp2
        go_ret
        exact TellsP.no HQ.out HF.out
      have hd1 : (d == n.parent) = true := by simpa using hd
      have HI5 := Lib.hid (show D ↔ cm = true from ⟨fun h => (HI4.out.1 h).2.2, fun h => HI4.out.2 ⟨hy, hd, h⟩⟩)
      clear HI4 hy hd
      go_wp2_with fail
      refine KMx.out.mono ?_
      rintro e w6 ⟨rfl, hb6⟩
      have HF6 := Lib.hid (below_then HF.out hb6)
      clear hb6
      go_wp2
      go_ret
      exact TellsP.is HI5.out.symm HF6.out
end Go.Proofs.YtgifmpobokaejaaGreatDoor

/-
  Layer 22, walks: how the document looks whether a node that is no directory may be, and a tree. Conditions: a tree that is not too large.
-/
namespace Go.Proofs.YtgifmpobokaejaaGreatDoor
open Go.RowKit
open Go.RowKit
attribute [local go_sem ↓] Go.wp_at_zero Go.wp_at_succ
attribute [local go_sem] rowAt_ptr rowOf_drew rowOf_drewN rowOf_alloc_past rowOf_new
attribute [local go_sem ↓] ldNode22 ldTree22 ldAttrR ldEntry

/-- what no directory that may be has -/
def OthF (n : Nd) (es : List Entry) : Prop := es = [] ∧ (n.attr.type = 1 → n.data.size ≤ 1024) ∧ (n.attr.type = 5 → targetSt (dataL n) = 0)
def SaysO (n : Nd) (es : List Entry) (w : World) (e : Ending) (w' : World) : Prop := ∃ b, e = .returned (.bool b) ∧ (b = true → OthF n es) ∧ Below w.heap.size w w'
theorem SaysO.no {n : Nd} {es : List Entry} {w w' : World} {b : Bool} (h : b = false) (hb : Below w.heap.size w w') : SaysO n es w (.returned (.bool b)) w' := ⟨b, rfl, (fun h2 => by rw [h] at h2; cases h2), hb⟩
theorem SaysO.any {n : Nd} {es : List Entry} {w w' : World} {b : Bool} (h : b = true → OthF n es) (hb : Below w.heap.size w w') : SaysO n es w (.returned (.bool b)) w' := ⟨b, rfl, h, hb⟩
set_option maxRecDepth 20000 in
set_option maxHeartbeats 3200000 in
theorem refOther_any (t : Tr) (ps : List (Nd × List Entry)) (n : Nd) (es : List Entry) (w : World) (hT : TreeH w t ps) (hen : n.en = es.length) (hd : (dataL n).length ≤ 1048576) :
    Calls Tryz.prog 30 #[t.val, .agg n.vals.toArray] w (SaysO n es w) := by
  obtain ⟨bT, bN, hB, hs⟩ := chain2_blks w t.vals n.vals 26 65
  obtain ⟨w1, hw1⟩ : ∃ V, V = (w.alloc (.cells t.vals.toArray 26)).alloc (.cells n.vals.toArray 65) := ⟨_, rfl⟩
  rw [← hw1] at bT bN hB hs
  have rT : rowOf w1 w.heap.size 0 6 = some t.vals.toArray := bT.row 0 6 (by rw [Tr.len]; omega)
  have cE : w1.cell? ⟨w.heap.size + 1, 14, none⟩ = some (.slice n.ea es.length n.ec) := by rw [bN.cell 14, ← hen]; rfl
  have cL : w1.cell? ⟨w.heap.size + 1, 13, none⟩ = some (.int .i64 n.last) := bN.cell 13
  have cP : w1.cell? ⟨w.heap.size + 1, 12, none⟩ = some (.int .i64 n.parent) := bN.cell 12
  have cV : w1.cell? ⟨w.heap.size + 1, 11, none⟩ = some (.int .i64 n.verf) := bN.cell 11
  have cD : w1.cell? ⟨w.heap.size + 1, 10, none⟩ = some (.string (bs (dataL n))) := by rw [← dataL_is]; exact bN.cell 10
  have cG : w1.cell? ⟨w.heap.size + 1, 7, none⟩ = some (.int .i64 n.attr.gen) := bN.cell 7
  have cK : w1.cell? ⟨w.heap.size + 1, 2, none⟩ = some (.int .i64 n.attr.nlink) := bN.cell 2
  have cT : w1.cell? ⟨w.heap.size + 1, 0, none⟩ = some (.int .i64 n.attr.type) := bN.cell 0
  have hlN := bN.lt
  have HW1 := Lib.hid hw1
  have HT := Lib.hid (hT.below hB)
  have KN := Lib.hid (refNamed_any t ps n.attr.gen w1 HT.out)
  have KT := Lib.hid (fun W => refTarget4_any (dataL n) W (by omega))
  have HB := Lib.hid hB
  have hsz := bs_size (dataL n)
  have HO := Lib.hid (show OthF n es = (es = [] ∧ (n.attr.type = 1 → (dataL n).length ≤ 1024) ∧ (n.attr.type = 5 → targetSt (dataL n) = 0)) by unfold OthF; rw [dataL_len])
  have HO2 := Lib.hid (fun (b : Bool) (W : World) (hB : Below w.heap.size w W) (ho : b = true → OthF n es) => (show SaysO n es w (.returned (.bool b)) W from SaysO.any ho hB))
  generalize hty : n.attr.type = ty at *
  generalize dataL n = d at *
  generalize targetSt d = st at *
  clear hw1 bT bN hs hT hB hen
  unfold Tr.val at KN ⊢
  have HT2 : (0 < es.length → es.length ≠ 0) := fun h => by omega
  go_enter Tryz.func30, Tryz.ntmps30
  go_upto_region 1 with fail
  change Code.wp _ _ _ _ ((w.alloc (.cells t.vals.toArray 26)).alloc (.cells n.vals.toArray 65))
  rw [← HW1.out]
  clear HT2 hty
  go_wp2_with fail
  refine KN.out.mono ?_
  rintro e w2 ⟨y, z, rfl, hb⟩
  replace cE := (hb.cell (p := ⟨w.heap.size + 1, 14, none⟩) hlN).trans cE
  replace cL := (hb.cell (p := ⟨w.heap.size + 1, 13, none⟩) hlN).trans cL
  replace cP := (hb.cell (p := ⟨w.heap.size + 1, 12, none⟩) hlN).trans cP
  replace cV := (hb.cell (p := ⟨w.heap.size + 1, 11, none⟩) hlN).trans cV
  replace cD := (hb.cell (p := ⟨w.heap.size + 1, 10, none⟩) hlN).trans cD
  replace cK := (hb.cell (p := ⟨w.heap.size + 1, 2, none⟩) hlN).trans cK
  replace cT := (hb.cell (p := ⟨w.heap.size + 1, 0, none⟩) hlN).trans cT
  have HF := Lib.hid (show Below w.heap.size w w2 from below_then HB.out hb)
  clear hb rT cG KN
  by_cases h0 : 0 < es.length
  · have h1 : (0 : Int) < (es.length : Int) := by omega
    go_wp2
    go_ret
    exact HO2.out _ _ HF.out (fun h => by cases h)
  have hes : es = [] := List.eq_nil_of_length_eq_zero (by omega)
  have h1 : ¬ (0 : Int) < (es.length : Int) := by omega
  by_cases t1 : ty = 1
  · subst t1
    by_cases hd1 : d.length ≤ 1024
    · have hd2 : (d.length : Int) ≤ 1024 := by omega
      have HY := Lib.hid (show OthF n es by rw [HO.out]; exact ⟨hes, fun _ => hd1, fun h => by cases h⟩)
      clear hes h0
      go_wp2
      all_goals
        go_ret
        exact HO2.out _ _ HF.out (fun _ => HY.out)
    · have hd2 : ¬ (d.length : Int) ≤ 1024 := by omega
      clear hes h0
      go_wp2
      all_goals
        go_ret
        exact HO2.out _ _ HF.out (fun h => by cases h)
  have t1' : (ty == 1) = false := by simpa using t1
  by_cases t5 : ty = 5
  · subst t5
    by_cases hs0 : st = 0
    · subst hs0
      have HY := Lib.hid (show OthF n es by rw [HO.out]; exact ⟨hes, (fun h => absurd h (by decide)), fun _ => rfl⟩)
      clear hes h0
      go_wp2_with (first | (go_at_call 69; refine (KT.out _).mono ?_; rintro e w3 ⟨rfl, rfl⟩) | fail)
      all_goals
        go_ret
        exact HO2.out _ _ HF.out (fun _ => HY.out)
    · have hs1 : (st == 0) = false := by simpa using hs0
      clear hes h0
      go_wp2_with (first | (go_at_call 69; refine (KT.out _).mono ?_; rintro e w3 ⟨rfl, rfl⟩) | fail)
      all_goals
        go_ret
        exact HO2.out _ _ HF.out (fun h => by cases h)
  have t5' : (ty == 5) = false := by simpa using t5
  have HY := Lib.hid (show OthF n es by rw [HO.out]; exact ⟨hes, fun h => absurd h t1, fun h => absurd h t5⟩)
  clear hes h0
  go_wp2
  all_goals
    go_ret
    exact HO2.out _ _ HF.out (fun _ => HY.out)
end Go.Proofs.YtgifmpobokaejaaGreatDoor


/-
  Layer 22, walks: how the document looks whether a node that is no directory may be, exact. Conditions: a tree that is not too large.
-/
namespace Go.Proofs.YtgifmpobokaejaaGreatDoor
open Go.RowKit
open Go.RowKit
attribute [local go_sem ↓] Go.wp_at_zero Go.wp_at_succ
attribute [local go_sem] rowAt_ptr rowOf_drew rowOf_drewN rowOf_alloc_past rowOf_new
attribute [local go_sem ↓] ldNode22 ldTree22 ldAttrR ldEntry

set_option maxRecDepth 20000 in
set_option maxHeartbeats 3200000 in
theorem refOther_iff (t : Tr) (ps : List (Nd × List Entry)) (n : Nd) (es : List Entry) (w : World) (hT : TreeH w t ps) (hen : n.en = es.length) (hd : (dataL n).length ≤ 1048576) :
    Calls Tryz.prog 30 #[t.val, .agg n.vals.toArray] w (TellsP (OthOk ps n es) w) := by
  obtain ⟨bT, bN, hB, hs⟩ := chain2_blks w t.vals n.vals 26 65
  obtain ⟨w1, hw1⟩ : ∃ V, V = (w.alloc (.cells t.vals.toArray 26)).alloc (.cells n.vals.toArray 65) := ⟨_, rfl⟩
  rw [← hw1] at bT bN hB hs
  have rT : rowOf w1 w.heap.size 0 6 = some t.vals.toArray := bT.row 0 6 (by rw [Tr.len]; omega)
  have cE : w1.cell? ⟨w.heap.size + 1, 14, none⟩ = some (.slice n.ea es.length n.ec) := by rw [bN.cell 14, ← hen]; rfl
  have cL : w1.cell? ⟨w.heap.size + 1, 13, none⟩ = some (.int .i64 n.last) := bN.cell 13
  have cP : w1.cell? ⟨w.heap.size + 1, 12, none⟩ = some (.int .i64 n.parent) := bN.cell 12
  have cV : w1.cell? ⟨w.heap.size + 1, 11, none⟩ = some (.int .i64 n.verf) := bN.cell 11
  have cD : w1.cell? ⟨w.heap.size + 1, 10, none⟩ = some (.string (bs (dataL n))) := by rw [← dataL_is]; exact bN.cell 10
  have cG : w1.cell? ⟨w.heap.size + 1, 7, none⟩ = some (.int .i64 n.attr.gen) := bN.cell 7
  have cK : w1.cell? ⟨w.heap.size + 1, 2, none⟩ = some (.int .i64 n.attr.nlink) := bN.cell 2
  have cT : w1.cell? ⟨w.heap.size + 1, 0, none⟩ = some (.int .i64 n.attr.type) := bN.cell 0
  have hlN := bN.lt
  have HW1 := Lib.hid hw1
  have HT := Lib.hid (hT.below hB)
  have KN := Lib.hid (refNamed_iff t ps n.attr.gen w1 HT.out)
  have KT := Lib.hid (fun W => refTarget4_any (dataL n) W (by omega))
  have HB := Lib.hid hB
  have hsz := bs_size (dataL n)
  have HO := Lib.hid (show OthOk ps n es ↔ (es.length = 0 ∧ n.parent = 0 ∧ n.last = 0 ∧ n.attr.nlink = (named ps n.attr.gen).1 ∧ 1 ≤ (named ps n.attr.gen).1 ∧ (named ps n.attr.gen).1 ≤ 8 ∧
      (n.attr.type = 1 → (dataL n).length ≤ 1024 ∧ 0 ≤ n.verf) ∧ (n.attr.type = 5 → targetSt (dataL n) = 0 ∧ n.verf = 0) ∧ (n.attr.type ≠ 1 → n.attr.type ≠ 5 → (dataL n).length = 0 ∧ n.verf = 0)) by
    unfold OthOk
    rw [dataL_len, List.length_eq_zero_iff]
    exact Iff.rfl)
  generalize OthOk ps n es = D at *
  generalize hty : n.attr.type = ty at *
  generalize dataL n = d at *
  generalize targetSt d = st at *
  generalize named ps n.attr.gen = R at *
  obtain ⟨y, z⟩ := R
  have HO2 := Lib.hid HO.out
  clear hw1 bT bN hs hT hB hen HO hty
  unfold Tr.val at KN ⊢
  go_enter Tryz.func30, Tryz.ntmps30
  go_upto_region 1 with fail
  change Code.wp _ _ _ _ ((w.alloc (.cells t.vals.toArray 26)).alloc (.cells n.vals.toArray 65))
  rw [← HW1.out]
  go_wp2_with fail
  refine KN.out.mono ?_
  rintro e w2 ⟨rfl, hb⟩
  replace cE := (hb.cell (p := ⟨w.heap.size + 1, 14, none⟩) hlN).trans cE
  replace cL := (hb.cell (p := ⟨w.heap.size + 1, 13, none⟩) hlN).trans cL
  replace cP := (hb.cell (p := ⟨w.heap.size + 1, 12, none⟩) hlN).trans cP
  replace cV := (hb.cell (p := ⟨w.heap.size + 1, 11, none⟩) hlN).trans cV
  replace cD := (hb.cell (p := ⟨w.heap.size + 1, 10, none⟩) hlN).trans cD
  replace cK := (hb.cell (p := ⟨w.heap.size + 1, 2, none⟩) hlN).trans cK
  replace cT := (hb.cell (p := ⟨w.heap.size + 1, 0, none⟩) hlN).trans cT
  have HF := Lib.hid (show Below w.heap.size w w2 from below_then HB.out hb)
  clear hb rT cG KN
  by_cases h0 : 0 < es.length
  case pos =>
    have h1 : (0 : Int) < (es.length : Int) := by omega
    have HQ := Lib.hid (show ¬ D from fun h => absurd (HO2.out.1 h).1 (by omega))
    clear HO2
    go_wp2
    go_ret
    exact TellsP.no HQ.out HF.out
  have h1 : ¬ (0 : Int) < (es.length : Int) := by omega
  by_cases q1 : n.parent = 0
  case neg =>
    have q1b : (n.parent != 0) = true := by simpa using q1
    have HQ := Lib.hid (show ¬ D from fun h => q1 (HO2.out.1 h).2.1)
    clear HO2 q1
    go_wp2
    go_ret
    exact TellsP.no HQ.out HF.out
  have q1b : (n.parent != 0) = false := by simpa using q1
  by_cases q2 : n.last = 0
  case neg =>
    have q2b : (n.last != 0) = true := by simpa using q2
    have HQ := Lib.hid (show ¬ D from fun h => q2 (HO2.out.1 h).2.2.1)
    clear HO2 q1 q2
    go_wp2
    go_ret
    exact TellsP.no HQ.out HF.out
  have q2b : (n.last != 0) = false := by simpa using q2
  by_cases q3 : n.attr.nlink = y
  case neg =>
    have q3b : (n.attr.nlink != y) = true := by simpa using q3
    have HQ := Lib.hid (show ¬ D from fun h => q3 (HO2.out.1 h).2.2.2.1)
    clear HO2 q1 q2 q3
    go_wp2
    go_ret
    exact TellsP.no HQ.out HF.out
  have q3b : (n.attr.nlink != y) = false := by simpa using q3
  by_cases q4 : 1 ≤ y
  case neg =>
    have q4b : y < 1 := by omega
    have HQ := Lib.hid (show ¬ D from fun h => q4 (HO2.out.1 h).2.2.2.2.1)
    clear HO2 q1 q2 q3 q4
    go_wp2
    go_ret
    exact TellsP.no HQ.out HF.out
  have q4b : ¬ y < 1 := by omega
  have q4c : decide (y < 1) = false := decide_eq_false q4b
  by_cases q5 : y ≤ 8
  case neg =>
    have q5b : 8 < y := by omega
    have HQ := Lib.hid (show ¬ D from fun h => q5 (HO2.out.1 h).2.2.2.2.2.1)
    clear HO2 q1 q2 q3 q4 q5
    go_wp2
    go_ret
    exact TellsP.no HQ.out HF.out
  have q5b : ¬ 8 < y := by omega
  have q5c : decide (8 < y) = false := decide_eq_false q5b
  have HO := Lib.hid (show D ↔ ((ty = 1 → d.length ≤ 1024 ∧ 0 ≤ n.verf) ∧ (ty = 5 → st = 0 ∧ n.verf = 0) ∧ (ty ≠ 1 → ty ≠ 5 → d.length = 0 ∧ n.verf = 0)) from
    ⟨fun h => (HO2.out.1 h).2.2.2.2.2.2, fun h => HO2.out.2 ⟨by omega, q1, q2, q3, q4, q5, h⟩⟩)
  clear HO2 q1 q2 q3 q4 q5
  by_cases t1 : ty = 1
  · subst t1
    by_cases hd1 : d.length ≤ 1024
    · have hd2 : (d.length : Int) ≤ 1024 := by omega
      by_cases hv : 0 ≤ n.verf
      · have hvd : decide (0 ≤ n.verf) = true := decide_eq_true hv
        have HY := Lib.hid (show D from HO.out.2 ⟨fun _ => ⟨hd1, hv⟩, (fun h => by cases h), fun h => absurd rfl h⟩)
        clear HO
        go_wp2
        all_goals
          go_ret
          exact TellsP.yes HY.out HF.out
      · have hv2 : decide (0 ≤ n.verf) = false := decide_eq_false hv
        have HQ := Lib.hid (show ¬ D from fun h => hv ((HO.out.1 h).1 rfl).2)
        clear HO
        go_wp2
        all_goals
          go_ret
          exact TellsP.no HQ.out HF.out
    · have hd2 : decide ((d.length : Int) ≤ 1024) = false := decide_eq_false (by omega)
      have HQ := Lib.hid (show ¬ D from fun h => hd1 ((HO.out.1 h).1 rfl).1)
      clear HO
      go_wp2
      all_goals
        go_ret
        exact TellsP.no HQ.out HF.out
  have t1' : (ty == 1) = false := by simpa using t1
  by_cases t5 : ty = 5
  · subst t5
    by_cases hs0 : st = 0
    · subst hs0
      have HY := Lib.hid (show D ↔ n.verf = 0 from ⟨fun h => ((HO.out.1 h).2.1 rfl).2, fun h => HO.out.2 ⟨fun h => absurd h (by decide), fun _ => ⟨rfl, h⟩, fun _ h => absurd rfl h⟩⟩)
      clear HO
      by_cases hv : n.verf = 0
      · have HQ := Lib.hid (HY.out.2 hv)
        have hv2 : (n.verf == 0) = true := by simpa using hv
        clear HY hv
        go_wp2_with (first | (go_at_call 69; refine (KT.out _).mono ?_; rintro e w3 ⟨rfl, rfl⟩) | fail)
        all_goals
          go_ret
          exact TellsP.yes HQ.out HF.out
      · have HQ := Lib.hid (fun h => hv (HY.out.1 h))
        have hv2 : (n.verf == 0) = false := by simpa using hv
        clear HY hv
        go_wp2_with (first | (go_at_call 69; refine (KT.out _).mono ?_; rintro e w3 ⟨rfl, rfl⟩) | fail)
        all_goals
          go_ret
          exact TellsP.no HQ.out HF.out
    · have hs1 : (st == 0) = false := by simpa using hs0
      have HQ := Lib.hid (show ¬ D from fun h => hs0 ((HO.out.1 h).2.1 rfl).1)
      clear HO hs0
      go_wp2_with (first | (go_at_call 69; refine (KT.out _).mono ?_; rintro e w3 ⟨rfl, rfl⟩) | fail)
      all_goals
        go_ret
        exact TellsP.no HQ.out HF.out
  have t5' : (ty == 5) = false := by simpa using t5
  by_cases hd0 : d.length = 0
  case neg =>
    have q2b : d ≠ [] := fun h => hd0 (by rw [h]; rfl)
    have q2c : d.isEmpty = false := by simpa using q2b
    have q2e : (d == []) = false := by simpa using q2b
    have HQ := Lib.hid (show ¬ D from fun h => hd0 ((HO.out.1 h).2.2 t1 t5).1)
    clear HO hd0
    go_wp2
    all_goals
      go_ret
      exact TellsP.no HQ.out HF.out
  obtain rfl : d = [] := List.eq_nil_of_length_eq_zero hd0
  have HY := Lib.hid (show D ↔ n.verf = 0 from ⟨fun h => ((HO.out.1 h).2.2 t1 t5).2, fun h => HO.out.2 ⟨fun h2 => absurd h2 t1, fun h2 => absurd h2 t5, fun _ _ => ⟨rfl, h⟩⟩⟩)
  clear HO hd0
  by_cases hv : n.verf = 0
  · have HQ := Lib.hid (HY.out.2 hv)
    have hv2 : (n.verf == 0) = true := by simpa using hv
    clear HY hv
    go_wp2
    all_goals
      go_ret
      exact TellsP.yes HQ.out HF.out
  · have HQ := Lib.hid (show ¬ D from fun h => hv (HY.out.1 h))
    have hv2 : (n.verf == 0) = false := by simpa using hv
    clear HY hv
    go_wp2
    all_goals
      go_ret
      exact TellsP.no HQ.out HF.out
end Go.Proofs.YtgifmpobokaejaaGreatDoor


/-
  Layer 22, walks: how the document tells that a tree is too large. Conditions: machine lengths.
-/
namespace Go.Proofs.YtgifmpobokaejaaGreatDoor
open Go.RowKit
open Go.RowKit
attribute [local go_sem ↓] Go.wp_at_zero Go.wp_at_succ
attribute [local go_sem] rowAt_ptr rowOf_drew rowOf_drewN rowOf_alloc_past rowOf_new
attribute [local go_sem ↓] ldTree22

/-- a tree is not too large -/
def FewT (ps : List (Nd × List Entry)) : Prop := small (ps.map (·.1)) ∧ ∀ p ∈ ps, p.2.length ≤ 70 ∧ ∀ x ∈ p.2, x.name.length ≤ 300
def SaysL (ps : List (Nd × List Entry)) (w : World) (e : Ending) (w' : World) : Prop := ∃ b, e = .returned (.bool b) ∧ (b = false → FewT ps) ∧ Below w.heap.size w w'
theorem SaysL.yes {ps : List (Nd × List Entry)} {w w' : World} (hb : Below w.heap.size w w') : SaysL ps w (.returned (.bool true)) w' := ⟨true, rfl, (fun h => by cases h), hb⟩
theorem SaysL.no {ps : List (Nd × List Entry)} {w w' : World} (h : FewT ps) (hb : Below w.heap.size w w') : SaysL ps w (.returned (.bool false)) w' := ⟨false, rfl, (fun _ => h), hb⟩
theorem le_max22 {n : Nat} (h : n ≤ maxLen) : n ≤ 9223372036854775807 := by
  unfold maxLen at h
  omega
set_option maxRecDepth 20000 in
set_option maxHeartbeats 1600000 in
theorem refLarge22_any (t : Tr) (ps : List (Nd × List Entry)) (w : World) (hns : t.ns = ps.map (·.1)) (hl : ps.length ≤ maxLen) (hA : At w 15 t.na (t.ns.map Nd.vals)) (hE : Ents w ps) (hg : ∀ p ∈ ps, p.1.good) :
    Calls Tryz.prog 7 #[t.val] w (SaysL ps w) := by
  have bT := Blk.new w 26 t.vals
  have hB : Below w.heap.size w (w.alloc (.cells t.vals.toArray 26)) := (Below.refl _ _).alloc (Nat.le_refl _) _
  obtain ⟨w1, hw1⟩ : ∃ V, V = w.alloc (.cells t.vals.toArray 26) := ⟨_, rfl⟩
  rw [← hw1] at bT hB
  have c5 : w1.cell? ⟨w.heap.size, 5, none⟩ = some (.slice t.na t.ns.length t.nc) := bT.cell 5
  have hlT := bT.lt
  have hl9 := le_max22 hl
  clear hl
  have hln : t.ns.length = ps.length := by rw [hns, List.length_map]
  have hgn : ∀ n ∈ t.ns, n.good := fun n hn => by
    rw [hns] at hn
    obtain ⟨p, hp, rfl⟩ := List.mem_map.1 hn
    exact hg p hp
  have KL := Lib.hid (large_any t.na t.nc t.ns w1 (by omega) (fun n hn => ⟨le_max22 (hgn n hn).2.1, le_max22 (hgn n hn).2.2.2.2.2⟩) (hA.below hB))
  have HW1 := Lib.hid hw1
  have HA := Lib.hid (hA.below hB)
  have HE := Lib.hid (hE.below hB)
  have HB := Lib.hid hB
  have HG := Lib.hid hg
  have HNS := Lib.hid hns
  have HLN := Lib.hid hln
  clear hw1 bT hB hA hE hg hgn hln hl9 hns
  unfold Tr.val
  go_enter Tryz.func7, Tryz.ntmps7
  go_upto_region 1 with fail
  change Code.wp _ _ _ _ (w.alloc (.cells t.vals.toArray 26))
  rw [← HW1.out]
  go_wp2_with fail
  refine KL.out.mono ?_
  rintro e w2 ⟨rfl, rfl⟩
  cases hlg : large t.ns
  case true =>
    go_wp2
    go_ret
    exact SaysL.yes HB.out
  have HS := Lib.hid (small_of hlg)
  clear hlg KL HW1
  have hl70 : t.ns.length ≤ 70 := HS.out.1
  go_wp2
  go_loopw [3] (fun i wr => ∃ k : Nat, k ≤ t.ns.length ∧ i = .int .i64 k ∧ (∀ p ∈ ps.take k, p.2.length ≤ 70 ∧ ∀ x ∈ p.2, x.name.length ≤ 300) ∧ Below w1.heap.size w1 wr) (fun i _ => t.ns.length - (intOf i).toNat)
  case atStart => exact ⟨0, Nat.zero_le _, rfl, (by simp), Below.refl _ _⟩
  case round =>
    obtain ⟨k, hk, rfl, hok, hb⟩ := hrel
    replace c5 := (hb.cell (p := ⟨w.heap.size, 5, none⟩) hlT).trans c5
    have HBr := Lib.hid (below_then HB.out hb)
    have hk0 : (0 : Int) ≤ (k : Int) := Int.natCast_nonneg _
    by_cases hlt : k < t.ns.length
    · have hk1 : (k : Int) < (t.ns.length : Int) := by omega
      have hiw : IntKind.i64.wrap ((k : Int) + 1) = ((k + 1 : Nat) : Int) := by rw [IntWalk.i64_in _ (by omega)]; omega
      have hkp : k < ps.length := by have := HLN.out; omega
      obtain ⟨b1, o1, hna, hb1, -, cc⟩ := rowCell8 Nd.len (by decide) (HA.out.below hb) hlt
      have c14 := cc 14 _ rfl
      have hnk : t.ns[k] = ps[k].1 := by simp only [HNS.out, List.getElem_map]
      have hmem := List.getElem_mem hkp
      have hen := (HE.out _ hmem).1
      have hgl := le_max22 (HG.out _ hmem).2.2.2.2.2
      rw [hnk, hen] at c14
      rw [hna] at c5
      have KN := Lib.hid (large20_any ps[k].1.ea ps[k].1.ec ps[k].2 wr (by omega) ((HE.out _ hmem).2.below hb))
      have HNX := Lib.hid (fun (h : ps[k].2.length ≤ 70 ∧ ∀ x ∈ ps[k].2, x.name.length ≤ 300) => (show ∀ q ∈ ps.take (k + 1), q.2.length ≤ 70 ∧ ∀ x ∈ q.2, x.name.length ≤ 300 by
        intro q hq
        rw [take_next _ _ hkp] at hq
        rcases List.mem_append.1 hq with hq | hq
        · exact hok q hq
        · simp only [List.mem_singleton] at hq
          subst hq
          exact h))
      have HBb := Lib.hid hb
      generalize ps[k] = p at *
      clear cc hok hb hna hnk hmem hen hgl
      go_wp2_with fail
      refine KN.out.mono ?_
      rintro e w4 ⟨b, rfl, hf, hb4⟩
      have HB4 := Lib.hid (HBb.out.trans (hb4.mono HBb.out.size))
      have HF4 := Lib.hid (below_then HBr.out hb4)
      clear hb4
      cases b
      case true =>
        go_wp2
        go_ret
        exact SaysL.yes HF4.out
      have HN := Lib.hid (HNX.out (hf rfl))
      clear hf
      go_wp2
      go_roundw
      case rel => first
        | exact ⟨k + 1, by omega, by first | rfl | go_num, HN.out, HB4.out⟩
        | (repeat apply Exists.intro
           refine ⟨?_, rfl⟩
           exact ⟨k + 1, by omega, by first | rfl | go_num, HN.out, HB4.out⟩)
      case measure => simp [intOf]; omega
    · obtain rfl : k = t.ns.length := by omega
      have hlm : ¬ (t.ns.length : Int) < (t.ns.length : Int) := by omega
      have HY := Lib.hid (show FewT ps from ⟨by rw [← HNS.out]; exact HS.out, by rw [List.take_of_length_le (by have := HLN.out; omega)] at hok; exact hok⟩)
      clear hok hb
      go_wp2
      go_ret
      exact SaysL.no HY.out HBr.out
end Go.Proofs.YtgifmpobokaejaaGreatDoor
