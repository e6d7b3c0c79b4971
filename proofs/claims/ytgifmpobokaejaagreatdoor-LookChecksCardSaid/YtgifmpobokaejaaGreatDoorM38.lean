/-
  Layer 22, walks: how the document looks whether a tree may be: what names a node; directories; other nodes. Conditions: a tree that is not too large.
-/
import Derived.Test.YtgifmpobokaejaaGreatDoorM37
import Derived.Test.YtgifmpobokaejaaGreatDoorM20
import Derived.Test.YtgifmpobokaejaaGreatDoorM13
namespace Go.Proofs.YtgifmpobokaejaaGreatDoor
open Go.RowKit
open Go.RowKit
attribute [local go_sem ↓] Go.wp_at_zero Go.wp_at_succ
attribute [local go_sem] rowAt_ptr rowOf_drew rowOf_drewN rowOf_alloc_past rowOf_new
attribute [local go_sem ↓] ldNode22 ldTree22 ldAttrR ldEntry

/-- some two numbers come back -/
def TwoP (w : World) (e : Ending) (w' : World) : Prop := ∃ x y : Int, e = .returned (.tuple #[.int .i64 x, .int .i64 y]) ∧ Below w.heap.size w w'
theorem TreeH.rowAt {w : World} {t : Tr} {ps : List (Nd × List Entry)} (h : TreeH w t ps) {k : Nat} (hk : k < t.ns.length) : ∃ p, p ∈ ps ∧ t.ns[k] = p.1 ∧ p.1.en = p.2.length ∧ At w 15 p.1.ea (p.2.map Entry.vals) ∧ p.2.length ≤ 70 := by
  have hns := h.ns
  have hkp : k < ps.length := by rw [hns, List.length_map] at hk; exact hk
  refine ⟨ps[k], List.getElem_mem hkp, by simp only [hns, List.getElem_map], (h.ents _ (List.getElem_mem hkp)).1, (h.ents _ (List.getElem_mem hkp)).2, (h.rows _ (List.getElem_mem hkp)).1⟩
set_option maxRecDepth 20000 in
set_option maxHeartbeats 1600000 in
theorem refNamed_any (t : Tr) (ps : List (Nd × List Entry)) (g : Int) (w : World) (hT : TreeH w t ps) :
    Calls Tryz.prog 68 #[t.val, .int .i64 g] w (TwoP w) := by
  have hX := Blk.new w 26 t.vals
  have hB : Below w.heap.size w (w.alloc (.cells t.vals.toArray 26)) := (Below.refl _ _).alloc (Nat.le_refl _) _
  obtain ⟨w1, hw1⟩ : ∃ V, V = w.alloc (.cells t.vals.toArray 26) := ⟨_, rfl⟩
  rw [← hw1] at hX hB
  have c5 : w1.cell? ⟨w.heap.size, 5, none⟩ = some (.slice t.na t.ns.length t.nc) := hX.cell 5
  have HW1 := Lib.hid hw1
  have HT := Lib.hid (hT.below hB)
  have HB := Lib.hid hB
  have hl := hT.len
  have hA1 := HT.out.at_
  clear hw1 hX hT hB
  unfold Tr.val
  generalize hna : t.na = A at *
  have HR := Lib.hid (fun (k : Nat) (hk : k < t.ns.length) => HT.out.rowAt hk)
  generalize t.ns = ns at *
  go_enter Tryz.func68, Tryz.ntmps68
  go_upto_region 1 with fail
  change Code.wp _ _ _ _ (w.alloc (.cells t.vals.toArray 26))
  rw [← HW1.out]
  clear hna HT
  go_wp2
  go_loopw [6, 7, 8] (fun a b i wr => ∃ (x y : Int) (k : Nat), a = .int .i64 x ∧ b = .int .i64 y ∧ k ≤ ns.length ∧ i = .int .i64 k ∧ wr = w1) (fun _ _ i _ => ns.length - (intOf i).toNat)
  case atStart => exact ⟨0, 0, 0, rfl, rfl, Nat.zero_le _, rfl, rfl⟩
  case round =>
    obtain ⟨x, y, k, rfl, rfl, hk, rfl, rfl⟩ := hrel
    by_cases hlt : k < ns.length
    · obtain ⟨p, hp, hnp, hen, hE, h70⟩ := HR.out k hlt
      obtain ⟨b, off, rfl, hb, -, cc⟩ := rowCell8 Nd.len (by decide) hA1 hlt
      rw [hnp] at cc
      have c7 := cc 7 _ rfl
      have c14 := cc 14 _ rfl
      rw [hen] at c14
      have hk0 : (0 : Int) ≤ (k : Int) := Int.natCast_nonneg _
      have hk1 : (k : Int) < (ns.length : Int) := by omega
      have hiw : IntKind.i64.wrap ((k : Int) + 1) = ((k + 1 : Nat) : Int) := by rw [IntWalk.i64_in _ (by omega)]; omega
      generalize p.2 = es at *
      clear cc hnp hen hp
      go_wp2
      go_loopw [6, 7, 10] (fun a b j V => ∃ (x y : Int) (m : Nat), a = .int .i64 x ∧ b = .int .i64 y ∧ m ≤ es.length ∧ j = .int .i64 m ∧ V = wr) (fun _ _ j _ => es.length - (intOf j).toNat)
      case atStart => exact ⟨x, y, 0, rfl, rfl, Nat.zero_le _, rfl, rfl⟩
      case round =>
        obtain ⟨x, y, m, rfl, rfl, hm, rfl, rfl⟩ := hrel
        by_cases hlm : m < es.length
        · obtain ⟨be, oe, hea, hbe, -, ce⟩ := rowCell8 Entry.len (by decide) hE hlm
          rw [hea] at c14
          have c0 : World.cell? _ ⟨be, oe + m * 15, none⟩ = some (.int .i64 es[m].gen) := ce 0 _ rfl
          have hm0 : (0 : Int) ≤ (m : Int) := Int.natCast_nonneg _
          have hm1 : (m : Int) < (es.length : Int) := by omega
          have him : IntKind.i64.wrap ((m : Int) + 1) = ((m + 1 : Nat) : Int) := by rw [IntWalk.i64_in _ (by omega)]; omega
          rw [hea]
          by_cases hg : es[m].gen = g
          · rw [hg] at c0
            clear ce hE
            go_wp2
            go_roundw
            case rel => exact ⟨_, _, m + 1, rfl, rfl, by omega, by first | rfl | go_num, by first | rfl | trivial⟩
            case measure => simp [intOf]; omega
          · have hg2 : (es[m].gen == g) = false := by simpa using hg
            clear ce hE
            go_wp2
            go_roundw
            case rel => exact ⟨_, _, m + 1, rfl, rfl, by omega, by first | rfl | go_num, by first | rfl | trivial⟩
            case measure => simp [intOf]; omega
        · obtain rfl : m = es.length := by omega
          have hlm : ¬ (es.length : Int) < (es.length : Int) := by omega
          clear hE
          go_wp2
          go_roundw
          case rel => exact ⟨_, _, k + 1, rfl, rfl, by omega, by first | rfl | go_num, by first | rfl | trivial⟩
          case measure => simp [intOf]; omega
    · obtain rfl : k = ns.length := by omega
      go_wp2
      go_ret2
      exact ⟨_, _, rfl, HB.out⟩
/-- what a directory that may be has -/
def DirF (ns : List Nd) (n : Nd) (es : List Entry) : Prop := goodL es ∧ ∀ x ∈ es, 1 ≤ placeOf ns x.gen ∧ x.cookie ≤ n.last
def SaysD (ns : List Nd) (n : Nd) (es : List Entry) (w : World) (e : Ending) (w' : World) : Prop := ∃ b, e = .returned (.bool b) ∧ (b = true → DirF ns n es) ∧ Below w.heap.size w w'
theorem SaysD.no {ns : List Nd} {n : Nd} {es : List Entry} {w w' : World} (hb : Below w.heap.size w w') : SaysD ns n es w (.returned (.bool false)) w' := ⟨false, rfl, (fun h => by cases h), hb⟩
theorem SaysD.any {ns : List Nd} {n : Nd} {es : List Entry} {w w' : World} {b : Bool} (h : DirF ns n es) (hb : Below w.heap.size w w') : SaysD ns n es w (.returned (.bool b)) w' := ⟨b, rfl, (fun _ => h), hb⟩
set_option maxRecDepth 20000 in
set_option maxHeartbeats 3200000 in
theorem refDirectory_any (t : Tr) (ps : List (Nd × List Entry)) (n : Nd) (es : List Entry) (w : World) (hT : TreeH w t ps) (hen : n.en = es.length) (h70 : es.length ≤ 70) (hnm : ∀ x ∈ es, x.name.length ≤ 300) (hE : At w 15 n.ea (es.map Entry.vals)) :
    Calls Tryz.prog 29 #[t.val, .agg n.vals.toArray] w (SaysD t.ns n es w) := by
  obtain ⟨bT, bN, hB, hs⟩ := chain2_blks w t.vals n.vals 26 65
  obtain ⟨w1, hw1⟩ : ∃ V, V = (w.alloc (.cells t.vals.toArray 26)).alloc (.cells n.vals.toArray 65) := ⟨_, rfl⟩
  rw [← hw1] at bT bN hB hs
  have c5 : w1.cell? ⟨w.heap.size, 5, none⟩ = some (.slice t.na t.ns.length t.nc) := bT.cell 5
  have rT : rowOf w1 w.heap.size 0 6 = some t.vals.toArray := bT.row 0 6 (by rw [Tr.len]; omega)
  have cE : w1.cell? ⟨w.heap.size + 1, 14, none⟩ = some (.slice n.ea es.length n.ec) := by rw [bN.cell 14, ← hen]; rfl
  have cL : w1.cell? ⟨w.heap.size + 1, 13, none⟩ = some (.int .i64 n.last) := bN.cell 13
  have cP : w1.cell? ⟨w.heap.size + 1, 12, none⟩ = some (.int .i64 n.parent) := bN.cell 12
  have cV : w1.cell? ⟨w.heap.size + 1, 11, none⟩ = some (.int .i64 n.verf) := bN.cell 11
  have cD : w1.cell? ⟨w.heap.size + 1, 10, none⟩ = some (.string n.data) := bN.cell 10
  have cG : w1.cell? ⟨w.heap.size + 1, 7, none⟩ = some (.int .i64 n.attr.gen) := bN.cell 7
  have cK : w1.cell? ⟨w.heap.size + 1, 2, none⟩ = some (.int .i64 n.attr.nlink) := bN.cell 2
  have hlT := bT.lt
  have hlN := bN.lt
  have hl := hT.len
  have HW1 := Lib.hid hw1
  have HT := Lib.hid (hT.below hB)
  have HE := Lib.hid (hE.below hB)
  have KO := Lib.hid (fun W (h : Below w1.heap.size w1 W) g => refOf22_any t g W hl (HT.out.at_.below h))
  have KC := Lib.hid (fun W (h : Below w1.heap.size w1 W) => refCheck20_any n.ea n.ec es W h70 hnm (HE.out.below h))
  have KN := Lib.hid (fun W (h : Below w1.heap.size w1 W) => refNamed_any t ps n.attr.gen W (HT.out.below h))
  have HPL := Lib.hid (fun g (h : ¬ placeOf t.ns g < 0) => placeOf_at (ns := t.ns) (gen := g) h)
  have HB := Lib.hid hB
  clear hw1 bT bN hs hT hE hB hen hnm
  unfold Tr.val at KO KN ⊢
  go_enter Tryz.func29, Tryz.ntmps29
  go_upto_region 1 with fail
  change Code.wp _ _ _ _ ((w.alloc (.cells t.vals.toArray 26)).alloc (.cells n.vals.toArray 65))
  rw [← HW1.out]
  have H1 := Lib.hid (And.intro c5 (And.intro rT (And.intro cE (And.intro cL (And.intro cP (And.intro cV (And.intro cD (And.intro cG cK))))))))
  clear HW1
  go_wp2
  go_loopw [5, 6] (fun a i wr => ∃ (x : Int) (k : Nat), a = .int .i64 x ∧ k ≤ es.length ∧ i = .int .i64 k ∧ (∀ y ∈ es.take k, 1 ≤ placeOf t.ns y.gen ∧ y.cookie ≤ n.last) ∧ Below w1.heap.size w1 wr) (fun _ i _ => es.length - (intOf i).toNat)
  case atStart => exact ⟨2, 0, rfl, Nat.zero_le _, rfl, (by simp), Below.refl _ _⟩
  case round =>
    obtain ⟨x, k, rfl, hk, rfl, hok, hb⟩ := hrel
    obtain ⟨c5, rT, cE, cL, cP, cV, cD, cG, cK⟩ := H1.out
    replace c5 := (hb.cell (p := ⟨w.heap.size, 5, none⟩) hlT).trans c5
    replace rT := (rowOf_below hb hlT 0 6).trans rT
    replace cE := (hb.cell (p := ⟨w.heap.size + 1, 14, none⟩) hlN).trans cE
    replace cL := (hb.cell (p := ⟨w.heap.size + 1, 13, none⟩) hlN).trans cL
    replace cP := (hb.cell (p := ⟨w.heap.size + 1, 12, none⟩) hlN).trans cP
    replace cV := (hb.cell (p := ⟨w.heap.size + 1, 11, none⟩) hlN).trans cV
    replace cD := (hb.cell (p := ⟨w.heap.size + 1, 10, none⟩) hlN).trans cD
    replace cG := (hb.cell (p := ⟨w.heap.size + 1, 7, none⟩) hlN).trans cG
    replace cK := (hb.cell (p := ⟨w.heap.size + 1, 2, none⟩) hlN).trans cK
    have hlT2 := Nat.lt_of_lt_of_le hlT hb.size
    have hlN2 := Nat.lt_of_lt_of_le hlN hb.size
    by_cases hlt : k < es.length
    · obtain ⟨be, oe, hea, hbe, -, ce⟩ := rowCell8 Entry.len (by decide) (HE.out.below hb) hlt
      have cg : wr.cell? ⟨be, oe + k * 15, none⟩ = some (.int .i64 es[k].gen) := ce 0 _ rfl
      have cc : wr.cell? ⟨be, oe + k * 15 + 2, none⟩ = some (.int .i64 es[k].cookie) := ce 2 _ rfl
      rw [hea] at cE
      have hk0 : (0 : Int) ≤ (k : Int) := Int.natCast_nonneg _
      have hk1 : (k : Int) < (es.length : Int) := by omega
      have hiw : IntKind.i64.wrap ((k : Int) + 1) = ((k + 1 : Nat) : Int) := by rw [IntWalk.i64_in _ (by omega)]; omega
      have HNX := Lib.hid (fun (h : 1 ≤ placeOf t.ns es[k].gen ∧ es[k].cookie ≤ n.last) => (show ∀ y ∈ es.take (k + 1), 1 ≤ placeOf t.ns y.gen ∧ y.cookie ≤ n.last by
        intro y hy
        rw [take_next _ _ hlt] at hy
        rcases List.mem_append.1 hy with hy | hy
        · exact hok y hy
        · simp only [List.mem_singleton] at hy
          subst hy
          exact h))
      have HPk := Lib.hid (fun (h : ¬ placeOf t.ns es[k].gen < 0) => HPL.out es[k].gen (by omega))
      have KOk := Lib.hid (fun W (h : Stb wr W) => KO.out W (hb.trans (h.below.mono hb.size)) es[k].gen)
      have HBr := Lib.hid hb
      generalize es[k] = ek at *
      generalize placeOf t.ns ek.gen = pl at *
      clear hb hok ce cP cV cD cG cK hea
      go_wp2_with fail
      go_region_held3 (fun W => Stb wr W) (first | exact Stb.start | assumption | (exact Stb.alloc (by assumption) _) | (exact Stb.call (by assumption) (by assumption))) (first | (go_at_call 66; refine (KOk.out _ (by assumption)).mono ?_; rintro e w4 ⟨rfl, hb4⟩))
      rename_i hX
      have hst : Stb wr w4 := hX
      clear hX
      have hb := hst.below
      replace c5 := (hb.cell (p := ⟨w.heap.size, 5, none⟩) hlT2).trans c5
      replace cE := (hb.cell (p := ⟨w.heap.size + 1, 14, none⟩) hlN2).trans cE
      replace cL := (hb.cell (p := ⟨w.heap.size + 1, 13, none⟩) hlN2).trans cL
      replace cc := (hb.cell (p := ⟨be, _, none⟩) hbe).trans cc
      have HB4 := Lib.hid (HBr.out.trans (hb.mono HBr.out.size))
      clear hst hb hb4 rT cg KOk HBr
      by_cases hp : pl < 1
      · have HF := Lib.hid (show Below w.heap.size w w4 from below_then HB.out HB4.out)
        go_wp2_with fail
        go_quiet (fail)
        go_wp2
        go_ret
        exact SaysD.no (bdN HF.out _)
      obtain ⟨p, hp1, hp2, -, -⟩ := HPk.out (by omega)
      subst hp1
      by_cases hck : n.last < ek.cookie
      · have HF := Lib.hid (show Below w.heap.size w w4 from below_then HB.out HB4.out)
        go_wp2_with fail
        go_quiet (fail)
        go_wp2
        go_ret
        exact SaysD.no (bdN HF.out _)
      have HOK := Lib.hid (HNX.out ⟨by omega, by omega⟩)
      obtain ⟨b1, o1, hna, hb1, -, cn⟩ := rowCell8 Nd.len (by decide) (HT.out.at_.below HB4.out) hp2
      have ct := cn 0 _ rfl
      replace ct : w4.cell? ⟨b1, o1 + p * 15, none⟩ = some (.int .i64 t.ns[p].attr.type) := ct
      rw [hna] at c5
      have hpi0 : (0 : Int) ≤ (p : Int) := Int.natCast_nonneg _
      have hpi1 : (p : Int) < (t.ns.length : Int) := by omega
      generalize t.ns[p].attr.type = ty at *
      clear cn HPk HNX hna
      by_cases hty : ty = 2
      · subst hty
        go_wp2_with fail
        go_quiet (fail)
        go_wp2
        go_roundw
        case rel => exact ⟨_, k + 1, rfl, by omega, by first | rfl | go_num, HOK.out, bdN HB4.out _⟩
        case measure => simp [intOf]; omega
      · have hty2 : (ty == 2) = false := by simpa using hty
        go_wp2_with fail
        go_quiet (fail)
        go_wp2
        go_roundw
        case rel => exact ⟨_, k + 1, rfl, by omega, by first | rfl | go_num, HOK.out, bdN HB4.out _⟩
        case measure => simp [intOf]; omega
    · obtain rfl : k = es.length := by omega
      have hlm : ¬ (es.length : Int) < (es.length : Int) := by omega
      rw [List.take_length] at hok
      have HOK := Lib.hid hok
      have HBr := Lib.hid hb
      clear hok hb
      go_wp2_with fail
      refine (KC.out _ HBr.out).mono ?_
      rintro e w4 ⟨b, rfl, hg, hb⟩
      replace c5 := (hb.cell (p := ⟨w.heap.size, 5, none⟩) hlT2).trans c5
      replace rT := (rowOf_below hb hlT2 0 6).trans rT
      replace cP := (hb.cell (p := ⟨w.heap.size + 1, 12, none⟩) hlN2).trans cP
      replace cV := (hb.cell (p := ⟨w.heap.size + 1, 11, none⟩) hlN2).trans cV
      replace cD := (hb.cell (p := ⟨w.heap.size + 1, 10, none⟩) hlN2).trans cD
      replace cG := (hb.cell (p := ⟨w.heap.size + 1, 7, none⟩) hlN2).trans cG
      replace cK := (hb.cell (p := ⟨w.heap.size + 1, 2, none⟩) hlN2).trans cK
      have hlT3 := Nat.lt_of_lt_of_le hlT2 hb.size
      have hlN3 := Nat.lt_of_lt_of_le hlN2 hb.size
      have HB4 := Lib.hid (HBr.out.trans (hb.mono HBr.out.size))
      have HF := Lib.hid (show Below w.heap.size w w4 from below_then HB.out HB4.out)
      clear hb cE cL HBr
      cases b
      case false =>
        go_wp2
        go_ret
        exact SaysD.no HF.out
      have HDF := Lib.hid (show DirF t.ns n es from ⟨hg rfl, HOK.out⟩)
      clear hg
      go_wp2_with fail
      all_goals first | (go_ret; exact SaysD.no HF.out) | (go_ret; exact SaysD.any HDF.out HF.out) | skip
      refine (KN.out _ HB4.out).mono ?_
      rintro e w5 ⟨y, d, rfl, hb⟩
      replace c5 := (hb.cell (p := ⟨w.heap.size, 5, none⟩) hlT3).trans c5
      replace rT := (rowOf_below hb hlT3 0 6).trans rT
      replace cP := (hb.cell (p := ⟨w.heap.size + 1, 12, none⟩) hlN3).trans cP
      have hlT4 := Nat.lt_of_lt_of_le hlT3 hb.size
      have HB5 := Lib.hid (HB4.out.trans (hb.mono HB4.out.size))
      replace HF := Lib.hid (show Below w.heap.size w w5 from below_then HB.out HB5.out)
      have H5 := Lib.hid (And.intro c5 rT)
      clear hb cV cD cG cK
      by_cases hy : y = 1
      case neg =>
        have hy1 : (y != 1) = true := by simpa using hy
        go_wp2
        go_ret
        exact SaysD.no HF.out
      subst hy
      by_cases hd : d = n.parent
      case neg =>
        have hd1 : (d != n.parent) = true := by simpa using hd
        go_wp2
        go_ret
        exact SaysD.no HF.out
      subst hd
      go_wp2
      go_loopw [10, 11] (fun a i wr => ∃ (x : Int) (k : Nat), a = .int .i64 x ∧ k ≤ t.ns.length ∧ i = .int .i64 k ∧ Below w5.heap.size w5 wr) (fun _ i _ => t.ns.length - (intOf i).toNat)
      case atStart => exact ⟨_, 0, rfl, Nat.zero_le _, rfl, Below.refl _ _⟩
      case round =>
        obtain ⟨x, k, rfl, hk, rfl, hb⟩ := hrel
        obtain ⟨c5, rT⟩ := H5.out
        replace c5 := (hb.cell (p := ⟨w.heap.size, 5, none⟩) hlT4).trans c5
        replace rT := (rowOf_below hb hlT4 0 6).trans rT
        have hlT5 := Nat.lt_of_lt_of_le hlT4 hb.size
        have HBr := Lib.hid (HB5.out.trans (hb.mono HB5.out.size))
        have HFr := Lib.hid (show Below w.heap.size w wr from below_then HB.out HBr.out)
        have hk0 : (0 : Int) ≤ (k : Int) := Int.natCast_nonneg _
        have HBb := Lib.hid hb
        clear hb cP
        by_cases hx : x = 1
        · subst hx
          go_wp2
          all_goals
            go_ret
            exact SaysD.any HDF.out HFr.out
        have hx1 : (x != 1) = true := by simpa using hx
        have hx2 : (x == 1) = false := by simpa using hx
        by_cases hlt : k < t.ns.length
        · have hk1 : (k : Int) < (t.ns.length : Int) := by omega
          have hiw : IntKind.i64.wrap ((k : Int) + 1) = ((k + 1 : Nat) : Int) := by rw [IntWalk.i64_in _ (by omega)]; omega
          have KOk := Lib.hid (KO.out wr HBr.out x)
          have HPk := Lib.hid (fun (h : ¬ placeOf t.ns x < 0) => HPL.out x (by omega))
          generalize placeOf t.ns x = pl at *
          go_wp2_with fail
          refine KOk.out.mono ?_
          rintro e w6 ⟨rfl, hb6⟩
          replace c5 := (hb6.cell (p := ⟨w.heap.size, 5, none⟩) hlT5).trans c5
          have HB6 := Lib.hid (HBr.out.trans (hb6.mono HBr.out.size))
          have HF6 := Lib.hid (show Below w.heap.size w w6 from below_then HB.out HB6.out)
          have HR6 := Lib.hid (HBb.out.trans (hb6.mono HBb.out.size))
          clear hb6 rT KOk
          by_cases hp : pl < 0
          · go_wp2
            go_ret
            exact SaysD.no HF6.out
          obtain ⟨p, hp1, hp2, -, -⟩ := HPk.out (by omega)
          subst hp1
          obtain ⟨b1, o1, hna, hb1, -, cn⟩ := rowCell8 Nd.len (by decide) (HT.out.at_.below HB6.out) hp2
          have ct := cn 12 _ rfl
          rw [hna] at c5
          have hpi0 : (0 : Int) ≤ (p : Int) := Int.natCast_nonneg _
          have hpi1 : (p : Int) < (t.ns.length : Int) := by omega
          clear cn HPk hna
          go_wp2
          go_roundw
          case rel => first
            | exact ⟨_, k + 1, rfl, by omega, by first | rfl | go_num, HR6.out⟩
            | (repeat apply Exists.intro
               refine ⟨?_, rfl⟩
               exact ⟨_, k + 1, rfl, by omega, by first | rfl | go_num, HR6.out⟩)
          case measure => simp [intOf]; omega
        · obtain rfl : k = t.ns.length := by omega
          have hlm : ¬ (t.ns.length : Int) < (t.ns.length : Int) := by omega
          go_wp2
          go_ret
          exact SaysD.any HDF.out HFr.out
end Go.Proofs.YtgifmpobokaejaaGreatDoor

/-
  Layer 22, walks: how the document looks whether a node that is no directory may be, and a tree. Conditions: a tree that is not too large.
-/
namespace Go.Proofs.YtgifmpobokaejaaGreatDoor
open Go.RowKit
open Go.RowKit
attribute [local go_sem ↓] Go.wp_at_zero Go.wp_at_succ
attribute [local go_sem] rowAt_ptr rowOf_drew rowOf_drewN rowOf_alloc_past rowOf_new
attribute [local go_sem ↓] ldNode22 ldTree22 ldAttrR ldEntry

/-- what no directory that may be has -/
def OthF (n : Nd) (es : List Entry) : Prop := es = [] ∧ (n.attr.type = 1 → n.data.size ≤ 1024) ∧ (n.attr.type = 5 → targetSt (dataL n) = 0)
def SaysO (n : Nd) (es : List Entry) (w : World) (e : Ending) (w' : World) : Prop := ∃ b, e = .returned (.bool b) ∧ (b = true → OthF n es) ∧ Below w.heap.size w w'
theorem SaysO.no {n : Nd} {es : List Entry} {w w' : World} {b : Bool} (h : b = false) (hb : Below w.heap.size w w') : SaysO n es w (.returned (.bool b)) w' := ⟨b, rfl, (fun h2 => by rw [h] at h2; cases h2), hb⟩
theorem SaysO.any {n : Nd} {es : List Entry} {w w' : World} {b : Bool} (h : b = true → OthF n es) (hb : Below w.heap.size w w') : SaysO n es w (.returned (.bool b)) w' := ⟨b, rfl, h, hb⟩
set_option maxRecDepth 20000 in
set_option maxHeartbeats 3200000 in
theorem refOther_any (t : Tr) (ps : List (Nd × List Entry)) (n : Nd) (es : List Entry) (w : World) (hT : TreeH w t ps) (hen : n.en = es.length) (hd : (dataL n).length ≤ 1048576) :
    Calls Tryz.prog 30 #[t.val, .agg n.vals.toArray] w (SaysO n es w) := by
  obtain ⟨bT, bN, hB, hs⟩ := chain2_blks w t.vals n.vals 26 65
  obtain ⟨w1, hw1⟩ : ∃ V, V = (w.alloc (.cells t.vals.toArray 26)).alloc (.cells n.vals.toArray 65) := ⟨_, rfl⟩
  rw [← hw1] at bT bN hB hs
  have rT : rowOf w1 w.heap.size 0 6 = some t.vals.toArray := bT.row 0 6 (by rw [Tr.len]; omega)
  have cE : w1.cell? ⟨w.heap.size + 1, 14, none⟩ = some (.slice n.ea es.length n.ec) := by rw [bN.cell 14, ← hen]; rfl
  have cL : w1.cell? ⟨w.heap.size + 1, 13, none⟩ = some (.int .i64 n.last) := bN.cell 13
  have cP : w1.cell? ⟨w.heap.size + 1, 12, none⟩ = some (.int .i64 n.parent) := bN.cell 12
  have cV : w1.cell? ⟨w.heap.size + 1, 11, none⟩ = some (.int .i64 n.verf) := bN.cell 11
  have cD : w1.cell? ⟨w.heap.size + 1, 10, none⟩ = some (.string (bs (dataL n))) := by rw [← dataL_is]; exact bN.cell 10
  have cG : w1.cell? ⟨w.heap.size + 1, 7, none⟩ = some (.int .i64 n.attr.gen) := bN.cell 7
  have cK : w1.cell? ⟨w.heap.size + 1, 2, none⟩ = some (.int .i64 n.attr.nlink) := bN.cell 2
  have cT : w1.cell? ⟨w.heap.size + 1, 0, none⟩ = some (.int .i64 n.attr.type) := bN.cell 0
  have hlN := bN.lt
  have HW1 := Lib.hid hw1
  have HT := Lib.hid (hT.below hB)
  have KN := Lib.hid (refNamed_any t ps n.attr.gen w1 HT.out)
  have KT := Lib.hid (fun W => refTarget4_any (dataL n) W (by omega))
  have HB := Lib.hid hB
  have hsz := bs_size (dataL n)
  have HO := Lib.hid (show OthF n es = (es = [] ∧ (n.attr.type = 1 → (dataL n).length ≤ 1024) ∧ (n.attr.type = 5 → targetSt (dataL n) = 0)) by unfold OthF; rw [dataL_len])
  have HO2 := Lib.hid (fun (b : Bool) (W : World) (hB : Below w.heap.size w W) (ho : b = true → OthF n es) => (show SaysO n es w (.returned (.bool b)) W from SaysO.any ho hB))
  generalize hty : n.attr.type = ty at *
  generalize dataL n = d at *
  generalize targetSt d = st at *
  clear hw1 bT bN hs hT hB hen
  unfold Tr.val at KN ⊢
  have HT2 : (0 < es.length → es.length ≠ 0) := fun h => by omega
  go_enter Tryz.func30, Tryz.ntmps30
  go_upto_region 1 with fail
  change Code.wp _ _ _ _ ((w.alloc (.cells t.vals.toArray 26)).alloc (.cells n.vals.toArray 65))
  rw [← HW1.out]
  clear HT2 hty
  go_wp2_with fail
  refine KN.out.mono ?_
  rintro e w2 ⟨y, z, rfl, hb⟩
  replace cE := (hb.cell (p := ⟨w.heap.size + 1, 14, none⟩) hlN).trans cE
  replace cL := (hb.cell (p := ⟨w.heap.size + 1, 13, none⟩) hlN).trans cL
  replace cP := (hb.cell (p := ⟨w.heap.size + 1, 12, none⟩) hlN).trans cP
  replace cV := (hb.cell (p := ⟨w.heap.size + 1, 11, none⟩) hlN).trans cV
  replace cD := (hb.cell (p := ⟨w.heap.size + 1, 10, none⟩) hlN).trans cD
  replace cK := (hb.cell (p := ⟨w.heap.size + 1, 2, none⟩) hlN).trans cK
  replace cT := (hb.cell (p := ⟨w.heap.size + 1, 0, none⟩) hlN).trans cT
  have HF := Lib.hid (show Below w.heap.size w w2 from below_then HB.out hb)
  clear hb rT cG KN
  by_cases h0 : 0 < es.length
  · have h1 : (0 : Int) < (es.length : Int) := by omega
    go_wp2
    go_ret
    exact HO2.out _ _ HF.out (fun h => by cases h)
  have hes : es = [] := List.eq_nil_of_length_eq_zero (by omega)
  have h1 : ¬ (0 : Int) < (es.length : Int) := by omega
  by_cases t1 : ty = 1
  · subst t1
    by_cases hd1 : d.length ≤ 1024
    · have hd2 : (d.length : Int) ≤ 1024 := by omega
      have HY := Lib.hid (show OthF n es by rw [HO.out]; exact ⟨hes, fun _ => hd1, fun h => by cases h⟩)
      clear hes h0
      go_wp2
      all_goals
        go_ret
        exact HO2.out _ _ HF.out (fun _ => HY.out)
    · have hd2 : ¬ (d.length : Int) ≤ 1024 := by omega
      clear hes h0
      go_wp2
      all_goals
        go_ret
        exact HO2.out _ _ HF.out (fun h => by cases h)
  have t1' : (ty == 1) = false := by simpa using t1
  by_cases t5 : ty = 5
  · subst t5
    by_cases hs0 : st = 0
    · subst hs0
      have HY := Lib.hid (show OthF n es by rw [HO.out]; exact ⟨hes, (fun h => absurd h (by decide)), fun _ => rfl⟩)
      clear hes h0
      go_wp2_with (first | (go_at_call 69; refine (KT.out _).mono ?_; rintro e w3 ⟨rfl, rfl⟩) | fail)
      all_goals
        go_ret
        exact HO2.out _ _ HF.out (fun _ => HY.out)
    · have hs1 : (st == 0) = false := by simpa using hs0
      clear hes h0
      go_wp2_with (first | (go_at_call 69; refine (KT.out _).mono ?_; rintro e w3 ⟨rfl, rfl⟩) | fail)
      all_goals
        go_ret
        exact HO2.out _ _ HF.out (fun h => by cases h)
  have t5' : (ty == 5) = false := by simpa using t5
  have HY := Lib.hid (show OthF n es by rw [HO.out]; exact ⟨hes, fun h => absurd h t1, fun h => absurd h t5⟩)
  clear hes h0
  go_wp2
  all_goals
    go_ret
    exact HO2.out _ _ HF.out (fun _ => HY.out)
end Go.Proofs.YtgifmpobokaejaaGreatDoor
