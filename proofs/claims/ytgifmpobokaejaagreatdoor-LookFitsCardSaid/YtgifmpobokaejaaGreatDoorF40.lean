/-
  Layer 22, walks: how the document looks whether a tree may be: what names a node; directories; other nodes. Conditions: a tree that is not too large.
-/
import Derived.Test.YtgifmpobokaejaaGreatDoorF34
import Derived.Test.YtgifmpobokaejaaGreatDoorF37
import Derived.Test.YtgifmpobokaejaaGreatDoorF13
import Derived.Test.YtgifmpobokaejaaGreatDoorF39
namespace Go.Proofs.YtgifmpobokaejaaGreatDoor
open Go.RowKit
open Go.RowKit
attribute [local go_sem ↓] Go.wp_at_zero Go.wp_at_succ
attribute [local go_sem] rowAt_ptr rowOf_drew rowOf_drewN rowOf_alloc_past rowOf_new
attribute [local go_sem ↓] ldNode22 ldTree22 ldAttrR ldEntry

/-- some two numbers come back -/
def TwoP (w : World) (e : Ending) (w' : World) : Prop := ∃ x y : Int, e = .returned (.tuple #[.int .i64 x, .int .i64 y]) ∧ Below w.heap.size w w'
theorem TreeH.rowAt {w : World} {t : Tr} {ps : List (Nd × List Entry)} (h : TreeH w t ps) {k : Nat} (hk : k < t.ns.length) : ∃ p, p ∈ ps ∧ t.ns[k] = p.1 ∧ p.1.en = p.2.length ∧ At w 15 p.1.ea (p.2.map Entry.vals) ∧ p.2.length ≤ 70 := by
  have hns := h.ns
  have hkp : k < ps.length := by rw [hns, List.length_map] at hk; exact hk
  refine ⟨ps[k], List.getElem_mem hkp, by simp only [hns, List.getElem_map], (h.ents _ (List.getElem_mem hkp)).1, (h.ents _ (List.getElem_mem hkp)).2, (h.rows _ (List.getElem_mem hkp)).1⟩
set_option maxRecDepth 20000 in
set_option maxHeartbeats 1600000 in
theorem refNamed_any (t : Tr) (ps : List (Nd × List Entry)) (g : Int) (w : World) (hT : TreeH w t ps) :
    Calls Tryz.prog 68 #[t.val, .int .i64 g] w (TwoP w) := by
  have hX := Blk.new w 26 t.vals
  have hB : Below w.heap.size w (w.alloc (.cells t.vals.toArray 26)) := (Below.refl _ _).alloc (Nat.le_refl _) _
  obtain ⟨w1, hw1⟩ : ∃ V, V = w.alloc (.cells t.vals.toArray 26) := ⟨_, rfl⟩
  rw [← hw1] at hX hB
  have c5 : w1.cell? ⟨w.heap.size, 5, none⟩ = some (.slice t.na t.ns.length t.nc) := hX.cell 5
  have HW1 := Lib.hid hw1
  have HT := Lib.hid (hT.below hB)
  have HB := Lib.hid hB
  have hl := hT.len
  have hA1 := HT.out.at_
  clear hw1 hX hT hB
  unfold Tr.val
  generalize hna : t.na = A at *
  have HR := Lib.hid (fun (k : Nat) (hk : k < t.ns.length) => HT.out.rowAt hk)
  generalize t.ns = ns at *
  go_enter Tryz.func68, Tryz.ntmps68
  go_upto_region 1 with fail
  change Code.wp _ _ _ _ (w.alloc (.cells t.vals.toArray 26))
  rw [← HW1.out]
  clear hna HT
  go_wp2
  go_loopw [6, 7, 8] (fun a b i wr => ∃ (x y : Int) (k : Nat), a = .int .i64 x ∧ b = .int .i64 y ∧ k ≤ ns.length ∧ i = .int .i64 k ∧ wr = w1) (fun _ _ i _ => ns.length - (intOf i).toNat)
  case atStart => exact ⟨0, 0, 0, rfl, rfl, Nat.zero_le _, rfl, rfl⟩
  case round =>
    obtain ⟨x, y, k, rfl, rfl, hk, rfl, rfl⟩ := hrel
    by_cases hlt : k < ns.length
    · obtain ⟨p, hp, hnp, hen, hE, h70⟩ := HR.out k hlt
      obtain ⟨b, off, rfl, hb, -, cc⟩ := rowCell8 Nd.len (by decide) hA1 hlt
      rw [hnp] at cc
      have c7 := cc 7 _ rfl
      have c14 := cc 14 _ rfl
      rw [hen] at c14
      have hk0 : (0 : Int) ≤ (k : Int) := Int.natCast_nonneg _
      have hk1 : (k : Int) < (ns.length : Int) := by omega
      have hiw : IntKind.i64.wrap ((k : Int) + 1) = ((k + 1 : Nat) : Int) := by rw [IntWalk.i64_in _ (by omega)]; omega
      generalize p.2 = es at *
      clear cc hnp hen hp
      go_wp2
      go_loopw [6, 7, 10] (fun a b j V => ∃ (x y : Int) (m : Nat), a = .int .i64 x ∧ b = .int .i64 y ∧ m ≤ es.length ∧ j = .int .i64 m ∧ V = wr) (fun _ _ j _ => es.length - (intOf j).toNat)
      case atStart => exact ⟨x, y, 0, rfl, rfl, Nat.zero_le _, rfl, rfl⟩
      case round =>
        obtain ⟨x, y, m, rfl, rfl, hm, rfl, rfl⟩ := hrel
        by_cases hlm : m < es.length
        · obtain ⟨be, oe, hea, hbe, -, ce⟩ := rowCell8 Entry.len (by decide) hE hlm
          rw [hea] at c14
          have c0 : World.cell? _ ⟨be, oe + m * 15, none⟩ = some (.int .i64 es[m].gen) := ce 0 _ rfl
          have hm0 : (0 : Int) ≤ (m : Int) := Int.natCast_nonneg _
          have hm1 : (m : Int) < (es.length : Int) := by omega
          have him : IntKind.i64.wrap ((m : Int) + 1) = ((m + 1 : Nat) : Int) := by rw [IntWalk.i64_in _ (by omega)]; omega
          rw [hea]
          by_cases hg : es[m].gen = g
          · rw [hg] at c0
            clear ce hE
            go_wp2
            go_roundw
            case rel => exact ⟨_, _, m + 1, rfl, rfl, by omega, by first | rfl | go_num, by first | rfl | trivial⟩
            case measure => simp [intOf]; omega
          · have hg2 : (es[m].gen == g) = false := by simpa using hg
            clear ce hE
            go_wp2
            go_roundw
            case rel => exact ⟨_, _, m + 1, rfl, rfl, by omega, by first | rfl | go_num, by first | rfl | trivial⟩
            case measure => simp [intOf]; omega
        · obtain rfl : m = es.length := by omega
          have hlm : ¬ (es.length : Int) < (es.length : Int) := by omega
          clear hE
          go_wp2
          go_roundw
          case rel => exact ⟨_, _, k + 1, rfl, rfl, by omega, by first | rfl | go_num, by first | rfl | trivial⟩
          case measure => simp [intOf]; omega
    · obtain rfl : k = ns.length := by omega
      go_wp2
      go_ret2
      exact ⟨_, _, rfl, HB.out⟩
/-- what a directory that may be has -/
def DirF (ns : List Nd) (n : Nd) (es : List Entry) : Prop := goodL es ∧ ∀ x ∈ es, 1 ≤ placeOf ns x.gen ∧ x.cookie ≤ n.last
def SaysD (ns : List Nd) (n : Nd) (es : List Entry) (w : World) (e : Ending) (w' : World) : Prop := ∃ b, e = .returned (.bool b) ∧ (b = true → DirF ns n es) ∧ Below w.heap.size w w'
theorem SaysD.no {ns : List Nd} {n : Nd} {es : List Entry} {w w' : World} (hb : Below w.heap.size w w') : SaysD ns n es w (.returned (.bool false)) w' := ⟨false, rfl, (fun h => by cases h), hb⟩
theorem SaysD.any {ns : List Nd} {n : Nd} {es : List Entry} {w w' : World} {b : Bool} (h : DirF ns n es) (hb : Below w.heap.size w w') : SaysD ns n es w (.returned (.bool b)) w' := ⟨b, rfl, (fun _ => h), hb⟩
set_option maxRecDepth 20000 in
set_option maxHeartbeats 3200000 in
theorem refDirectory_any (t : Tr) (ps : List (Nd × List Entry)) (n : Nd) (es : List Entry) (w : World) (hT : TreeH w t ps) (hen : n.en = es.length) (h70 : es.length ≤ 70) (hnm : ∀ x ∈ es, x.name.length ≤ 300) (hE : At w 15 n.ea (es.map Entry.vals)) :
    Calls Tryz.prog 29 #[t.val, .agg n.vals.toArray] w (SaysD t.ns n es w) := by
  obtain ⟨bT, bN, hB, hs⟩ := chain2_blks w t.vals n.vals 26 65
  obtain ⟨w1, hw1⟩ : ∃ V, V = (w.alloc (.cells t.vals.toArray 26)).alloc (.cells n.vals.toArray 65) := ⟨_, rfl⟩
  rw [← hw1] at bT bN hB hs
  have c5 : w1.cell? ⟨w.heap.size, 5, none⟩ = some (.slice t.na t.ns.length t.nc) := bT.cell 5
  have rT : rowOf w1 w.heap.size 0 6 = some t.vals.toArray := bT.row 0 6 (by rw [Tr.len]; omega)
  have cE : w1.cell? ⟨w.heap.size + 1, 14, none⟩ = some (.slice n.ea es.length n.ec) := by rw [bN.cell 14, ← hen]; rfl
  have cL : w1.cell? ⟨w.heap.size + 1, 13, none⟩ = some (.int .i64 n.last) := bN.cell 13
  have cP : w1.cell? ⟨w.heap.size + 1, 12, none⟩ = some (.int .i64 n.parent) := bN.cell 12
  have cV : w1.cell? ⟨w.heap.size + 1, 11, none⟩ = some (.int .i64 n.verf) := bN.cell 11
  have cD : w1.cell? ⟨w.heap.size + 1, 10, none⟩ = some (.string n.data) := bN.cell 10
  have cG : w1.cell? ⟨w.heap.size + 1, 7, none⟩ = some (.int .i64 n.attr.gen) := bN.cell 7
  have cK : w1.cell? ⟨w.heap.size + 1, 2, none⟩ = some (.int .i64 n.attr.nlink) := bN.cell 2
  have hlT := bT.lt
  have hlN := bN.lt
  have hl := hT.len
  have HW1 := Lib.hid hw1
  have HT := Lib.hid (hT.below hB)
  have HE := Lib.hid (hE.below hB)
  have KO := Lib.hid (fun W (h : Below w1.heap.size w1 W) g => refOf22_any t g W hl (HT.out.at_.below h))
  have KC := Lib.hid (fun W (h : Below w1.heap.size w1 W) => refCheck20_any n.ea n.ec es W h70 hnm (HE.out.below h))
  have KN := Lib.hid (fun W (h : Below w1.heap.size w1 W) => refNamed_any t ps n.attr.gen W (HT.out.below h))
  have HPL := Lib.hid (fun g (h : ¬ placeOf t.ns g < 0) => placeOf_at (ns := t.ns) (gen := g) h)
  have HB := Lib.hid hB
  clear hw1 bT bN hs hT hE hB hen hnm
  unfold Tr.val at KO KN ⊢
  go_enter Tryz.func29, Tryz.ntmps29
  go_upto_region 1 with fail
  change Code.wp _ _ _ _ ((w.alloc (.cells t.vals.toArray 26)).alloc (.cells n.vals.toArray 65))
  rw [← HW1.out]
  have H1 := Lib.hid (And.intro c5 (And.intro rT (And.intro cE (And.intro cL (And.intro cP (And.intro cV (And.intro cD (And.intro cG cK))))))))
  clear HW1
  go_wp2
  go_loopw [5, 6] (fun a i wr => ∃ (x : Int) (k : Nat), a = .int .i64 x ∧ k ≤ es.length ∧ i = .int .i64 k ∧ (∀ y ∈ es.take k, 1 ≤ placeOf t.ns y.gen ∧ y.cookie ≤ n.last) ∧ Below w1.heap.size w1 wr) (fun _ i _ => es.length - (intOf i).toNat)
  case atStart => exact ⟨2, 0, rfl, Nat.zero_le _, rfl, (by simp), Below.refl _ _⟩
  case round =>
    obtain ⟨x, k, rfl, hk, rfl, hok, hb⟩ := hrel
    obtain ⟨c5, rT, cE, cL, cP, cV, cD, cG, cK⟩ := H1.out
    replace c5 := (hb.cell (p := ⟨w.heap.size, 5, none⟩) hlT).trans c5
    replace rT := (rowOf_below hb hlT 0 6).trans rT
    replace cE := (hb.cell (p := ⟨w.heap.size + 1, 14, none⟩) hlN).trans cE
    replace cL := (hb.cell (p := ⟨w.heap.size + 1, 13, none⟩) hlN).trans cL
    replace cP := (hb.cell (p := ⟨w.heap.size + 1, 12, none⟩) hlN).trans cP
    replace cV := (hb.cell (p := ⟨w.heap.size + 1, 11, none⟩) hlN).trans cV
    replace cD := (hb.cell (p := ⟨w.heap.size + 1, 10, none⟩) hlN).trans cD
    replace cG := (hb.cell (p := ⟨w.heap.size + 1, 7, none⟩) hlN).trans cG
    replace cK := (hb.cell (p := ⟨w.heap.size + 1, 2, none⟩) hlN).trans cK
    have hlT2 := Nat.lt_of_lt_of_le hlT hb.size
    have hlN2 := Nat.lt_of_lt_of_le hlN hb.size
    by_cases hlt : k < es.length
    · obtain ⟨be, oe, hea, hbe, -, ce⟩ := rowCell8 Entry.len (by decide) (HE.out.below hb) hlt
      have cg : wr.cell? ⟨be, oe + k * 15, none⟩ = some (.int .i64 es[k].gen) := ce 0 _ rfl
      have cc : wr.cell? ⟨be, oe + k * 15 + 2, none⟩ = some (.int .i64 es[k].cookie) := ce 2 _ rfl
      rw [hea] at cE
      have hk0 : (0 : Int) ≤ (k : Int) := Int.natCast_nonneg _
      have hk1 : (k : Int) < (es.length : Int) := by omega
      have hiw : IntKind.i64.wrap ((k : Int) + 1) = ((k + 1 : Nat) : Int) := by rw [IntWalk.i64_in _ (by omega)]; omega
      have HNX := Lib.hid (fun (h : 1 ≤ placeOf t.ns es[k].gen ∧ es[k].cookie ≤ n.last) => (show ∀ y ∈ es.take (k + 1), 1 ≤ placeOf t.ns y.gen ∧ y.cookie ≤ n.last by
        intro y hy
        rw [take_next _ _ hlt] at hy
        rcases List.mem_append.1 hy with hy | hy
        · exact hok y hy
        · simp only [List.mem_singleton] at hy
          subst hy
          exact h))
      have HPk := Lib.hid (fun (h : ¬ placeOf t.ns es[k].gen < 0) => HPL.out es[k].gen (by omega))
      have KOk := Lib.hid (fun W (h : Stb wr W) => KO.out W (hb.trans (h.below.mono hb.size)) es[k].gen)
      have HBr := Lib.hid hb
      generalize es[k] = ek at *
      generalize placeOf t.ns ek.gen = pl at *
      clear hb hok ce cP cV cD cG cK hea
      go_wp2_with fail
      go_region_held3 (fun W => Stb wr W) (first | exact Stb.start | assumption | (exact Stb.alloc (by assumption) _) | (exact Stb.call (by assumption) (by assumption))) (first | (go_at_call 66; refine (KOk.out _ (by assumption)).mono ?_; rintro e w4 ⟨rfl, hb4⟩))
      rename_i hX
      have hst : Stb wr w4 := hX
      clear hX
      have hb := hst.below
      replace c5 := (hb.cell (p := ⟨w.heap.size, 5, none⟩) hlT2).trans c5
      replace cE := (hb.cell (p := ⟨w.heap.size + 1, 14, none⟩) hlN2).trans cE
      replace cL := (hb.cell (p := ⟨w.heap.size + 1, 13, none⟩) hlN2).trans cL
      replace cc := (hb.cell (p := ⟨be, _, none⟩) hbe).trans cc
      have HB4 := Lib.hid (HBr.out.trans (hb.mono HBr.out.size))
      clear hst hb hb4 rT cg KOk HBr
      by_cases hp : pl < 1
      · have HF := Lib.hid (show Below w.heap.size w w4 from below_then HB.out HB4.out)
        go_wp2_with fail
        go_quiet (fail)
        go_wp2
        go_ret
        exact SaysD.no (bdN HF.out _)
      obtain ⟨p, hp1, hp2, -, -⟩ := HPk.out (by omega)
      subst hp1
      by_cases hck : n.last < ek.cookie
      · have HF := Lib.hid (show Below w.heap.size w w4 from below_then HB.out HB4.out)
        go_wp2_with fail
        go_quiet (fail)
        go_wp2
        go_ret
        exact SaysD.no (bdN HF.out _)
      have HOK := Lib.hid (HNX.out ⟨by omega, by omega⟩)
      obtain ⟨b1, o1, hna, hb1, -, cn⟩ := rowCell8 Nd.len (by decide) (HT.out.at_.below HB4.out) hp2
      have ct := cn 0 _ rfl
      replace ct : w4.cell? ⟨b1, o1 + p * 15, none⟩ = some (.int .i64 t.ns[p].attr.type) := ct
      rw [hna] at c5
      have hpi0 : (0 : Int) ≤ (p : Int) := Int.natCast_nonneg _
      have hpi1 : (p : Int) < (t.ns.length : Int) := by omega
      generalize t.ns[p].attr.type = ty at *
      clear cn HPk HNX hna
      by_cases hty : ty = 2
      · subst hty
        go_wp2_with fail
        go_quiet (fail)
        go_wp2
        go_roundw
        case rel => exact ⟨_, k + 1, rfl, by omega, by first | rfl | go_num, HOK.out, bdN HB4.out _⟩
        case measure => simp [intOf]; omega
      · have hty2 : (ty == 2) = false := by simpa using hty
        go_wp2_with fail
        go_quiet (fail)
        go_wp2
        go_roundw
        case rel => exact ⟨_, k + 1, rfl, by omega, by first | rfl | go_num, HOK.out, bdN HB4.out _⟩
        case measure => simp [intOf]; omega
    · obtain rfl : k = es.length := by omega
      have hlm : ¬ (es.length : Int) < (es.length : Int) := by omega
      rw [List.take_length] at hok
      have HOK := Lib.hid hok
      have HBr := Lib.hid hb
      clear hok hb
      go_wp2_with fail
      refine (KC.out _ HBr.out).mono ?_
      rintro e w4 ⟨b, rfl, hg, hb⟩
      replace c5 := (hb.cell (p := ⟨w.heap.size, 5, none⟩) hlT2).trans c5
      replace rT := (rowOf_below hb hlT2 0 6).trans rT
      replace cP := (hb.cell (p := ⟨w.heap.size + 1, 12, none⟩) hlN2).trans cP
      replace cV := (hb.cell (p := ⟨w.heap.size + 1, 11, none⟩) hlN2).trans cV
      replace cD := (hb.cell (p := ⟨w.heap.size + 1, 10, none⟩) hlN2).trans cD
      replace cG := (hb.cell (p := ⟨w.heap.size + 1, 7, none⟩) hlN2).trans cG
      replace cK := (hb.cell (p := ⟨w.heap.size + 1, 2, none⟩) hlN2).trans cK
      have hlT3 := Nat.lt_of_lt_of_le hlT2 hb.size
      have hlN3 := Nat.lt_of_lt_of_le hlN2 hb.size
      have HB4 := Lib.hid (HBr.out.trans (hb.mono HBr.out.size))
      have HF := Lib.hid (show Below w.heap.size w w4 from below_then HB.out HB4.out)
      clear hb cE cL HBr
      cases b
      case false =>
        go_wp2
        go_ret
        exact SaysD.no HF.out
      have HDF := Lib.hid (show DirF t.ns n es from ⟨hg rfl, HOK.out⟩)
      clear hg
      go_wp2_with fail
      all_goals first | (go_ret; exact SaysD.no HF.out) | (go_ret; exact SaysD.any HDF.out HF.out) | skip
      refine (KN.out _ HB4.out).mono ?_
      rintro e w5 ⟨y, d, rfl, hb⟩
      replace c5 := (hb.cell (p := ⟨w.heap.size, 5, none⟩) hlT3).trans c5
      replace rT := (rowOf_below hb hlT3 0 6).trans rT
      replace cP := (hb.cell (p := ⟨w.heap.size + 1, 12, none⟩) hlN3).trans cP
      have hlT4 := Nat.lt_of_lt_of_le hlT3 hb.size
      have HB5 := Lib.hid (HB4.out.trans (hb.mono HB4.out.size))
      replace HF := Lib.hid (show Below w.heap.size w w5 from below_then HB.out HB5.out)
      have H5 := Lib.hid (And.intro c5 rT)
      clear hb cV cD cG cK
      by_cases hy : y = 1
      case neg =>
        have hy1 : (y != 1) = true := by simpa using hy
        go_wp2
        go_ret
        exact SaysD.no HF.out
      subst hy
      by_cases hd : d = n.parent
      case neg =>
        have hd1 : (d != n.parent) = true := by simpa using hd
        go_wp2
        go_ret
        exact SaysD.no HF.out
      subst hd
      go_wp2
      go_loopw [10, 11] (fun a i wr => ∃ (x : Int) (k : Nat), a = .int .i64 x ∧ k ≤ t.ns.length ∧ i = .int .i64 k ∧ Below w5.heap.size w5 wr) (fun _ i _ => t.ns.length - (intOf i).toNat)
      case atStart => exact ⟨_, 0, rfl, Nat.zero_le _, rfl, Below.refl _ _⟩
      case round =>
        obtain ⟨x, k, rfl, hk, rfl, hb⟩ := hrel
        obtain ⟨c5, rT⟩ := H5.out
        replace c5 := (hb.cell (p := ⟨w.heap.size, 5, none⟩) hlT4).trans c5
        replace rT := (rowOf_below hb hlT4 0 6).trans rT
        have hlT5 := Nat.lt_of_lt_of_le hlT4 hb.size
        have HBr := Lib.hid (HB5.out.trans (hb.mono HB5.out.size))
        have HFr := Lib.hid (show Below w.heap.size w wr from below_then HB.out HBr.out)
        have hk0 : (0 : Int) ≤ (k : Int) := Int.natCast_nonneg _
        have HBb := Lib.hid hb
        clear hb cP
        by_cases hx : x = 1
        · subst hx
          go_wp2
          all_goals
            go_ret
            exact SaysD.any HDF.out HFr.out
        have hx1 : (x != 1) = true := by simpa using hx
        have hx2 : (x == 1) = false := by simpa using hx
        by_cases hlt : k < t.ns.length
        · have hk1 : (k : Int) < (t.ns.length : Int) := by omega
          have hiw : IntKind.i64.wrap ((k : Int) + 1) = ((k + 1 : Nat) : Int) := by rw [IntWalk.i64_in _ (by omega)]; omega
          have KOk := Lib.hid (KO.out wr HBr.out x)
          have HPk := Lib.hid (fun (h : ¬ placeOf t.ns x < 0) => HPL.out x (by omega))
          generalize placeOf t.ns x = pl at *
          go_wp2_with fail
          refine KOk.out.mono ?_
          rintro e w6 ⟨rfl, hb6⟩
          replace c5 := (hb6.cell (p := ⟨w.heap.size, 5, none⟩) hlT5).trans c5
          have HB6 := Lib.hid (HBr.out.trans (hb6.mono HBr.out.size))
          have HF6 := Lib.hid (show Below w.heap.size w w6 from below_then HB.out HB6.out)
          have HR6 := Lib.hid (HBb.out.trans (hb6.mono HBb.out.size))
          clear hb6 rT KOk
          by_cases hp : pl < 0
          · go_wp2
            go_ret
            exact SaysD.no HF6.out
          obtain ⟨p, hp1, hp2, -, -⟩ := HPk.out (by omega)
          subst hp1
          obtain ⟨b1, o1, hna, hb1, -, cn⟩ := rowCell8 Nd.len (by decide) (HT.out.at_.below HB6.out) hp2
          have ct := cn 12 _ rfl
          rw [hna] at c5
          have hpi0 : (0 : Int) ≤ (p : Int) := Int.natCast_nonneg _
          have hpi1 : (p : Int) < (t.ns.length : Int) := by omega
          clear cn HPk hna
          go_wp2
          go_roundw
          case rel => first
            | exact ⟨_, k + 1, rfl, by omega, by first | rfl | go_num, HR6.out⟩
            | (repeat apply Exists.intro
               refine ⟨?_, rfl⟩
               exact ⟨_, k + 1, rfl, by omega, by first | rfl | go_num, HR6.out⟩)
          case measure => simp [intOf]; omega
        · obtain rfl : k = t.ns.length := by omega
          have hlm : ¬ (t.ns.length : Int) < (t.ns.length : Int) := by omega
          go_wp2
          go_ret
          exact SaysD.any HDF.out HFr.out
end Go.Proofs.YtgifmpobokaejaaGreatDoor

/-
  Layer 22, walks: how the document looks whether a directory may be, exact. Conditions: a tree that is not too large.
-/
namespace Go.Proofs.YtgifmpobokaejaaGreatDoor
open Go.RowKit
open Go.RowKit
attribute [local go_sem ↓] Go.wp_at_zero Go.wp_at_succ
attribute [local go_sem] rowAt_ptr rowOf_drew rowOf_drewN rowOf_alloc_past rowOf_new
attribute [local go_sem ↓] ldNode22 ldTree22 ldAttrR ldEntry

theorem linksK_at {ns : List Nd} {es : List Entry} {k : Nat} (hk : k < es.length) (a : Int) : linksK ns (es.drop k) a = linksK ns (es.drop (k + 1)) (if (nodeAt ns (placeOf ns es[k].gen)).attr.type = 2 then a + 1 else a) := by
  rw [List.drop_eq_getElem_cons hk, linksK]
theorem linksK_end {ns : List Nd} {es : List Entry} {k : Nat} (hk : es.length ≤ k) (a : Int) : linksK ns (es.drop k) a = a := by
  rw [List.drop_of_length_le hk, linksK]
set_option maxRecDepth 20000 in
set_option maxHeartbeats 3200000 in
theorem refDirectory_iff (t : Tr) (ps : List (Nd × List Entry)) (n : Nd) (es : List Entry) (w : World) (hT : TreeH w t ps) (hen : n.en = es.length) (h70 : es.length ≤ 70) (hnm : ∀ x ∈ es, x.name.length ≤ 300) (hd : (dataL n).length ≤ 1048576) (hE : At w 15 n.ea (es.map Entry.vals)) :
    Calls Tryz.prog 29 #[t.val, .agg n.vals.toArray] w (TellsP (DirOk (comesD t.ns) ps t.ns n es) w) := by
  obtain ⟨bT, bN, hB, hs⟩ := chain2_blks w t.vals n.vals 26 65
  obtain ⟨w1, hw1⟩ : ∃ V, V = (w.alloc (.cells t.vals.toArray 26)).alloc (.cells n.vals.toArray 65) := ⟨_, rfl⟩
  rw [← hw1] at bT bN hB hs
  have c5 : w1.cell? ⟨w.heap.size, 5, none⟩ = some (.slice t.na t.ns.length t.nc) := bT.cell 5
  have rT : rowOf w1 w.heap.size 0 6 = some t.vals.toArray := bT.row 0 6 (by rw [Tr.len]; omega)
  have cE : w1.cell? ⟨w.heap.size + 1, 14, none⟩ = some (.slice n.ea es.length n.ec) := by rw [bN.cell 14, ← hen]; rfl
  have cL : w1.cell? ⟨w.heap.size + 1, 13, none⟩ = some (.int .i64 n.last) := bN.cell 13
  have cP : w1.cell? ⟨w.heap.size + 1, 12, none⟩ = some (.int .i64 n.parent) := bN.cell 12
  have cV : w1.cell? ⟨w.heap.size + 1, 11, none⟩ = some (.int .i64 n.verf) := bN.cell 11
  have cD : w1.cell? ⟨w.heap.size + 1, 10, none⟩ = some (.string (bs (dataL n))) := by rw [← dataL_is]; exact bN.cell 10
  have cG : w1.cell? ⟨w.heap.size + 1, 7, none⟩ = some (.int .i64 n.attr.gen) := bN.cell 7
  have cK : w1.cell? ⟨w.heap.size + 1, 2, none⟩ = some (.int .i64 n.attr.nlink) := bN.cell 2
  have hlT := bT.lt
  have hlN := bN.lt
  have hl := hT.len
  have HW1 := Lib.hid hw1
  have HT := Lib.hid (hT.below hB)
  have HE := Lib.hid (hE.below hB)
  have KO := Lib.hid (fun W (h : Below w1.heap.size w1 W) g => refOf22_any t g W hl (HT.out.at_.below h))
  have KC := Lib.hid (fun W (h : Below w1.heap.size w1 W) => refCheck20_iff n.ea n.ec es W h70 hnm (HE.out.below h))
  have KN := Lib.hid (fun W (h : Below w1.heap.size w1 W) => refNamed_iff t ps n.attr.gen W (HT.out.below h))
  have HPL := Lib.hid (fun g (h : ¬ placeOf t.ns g < 0) => placeOf_at (ns := t.ns) (gen := g) h)
  have HB := Lib.hid hB
  have HDL := Lib.hid (show n.data.size = (dataL n).length from (dataL_len n).symm)
  have hl70 := hT.few.1
  obtain ⟨D, hD⟩ : ∃ D : Prop, D = DirOk (comesD t.ns) ps t.ns n es := ⟨_, rfl⟩
  have HD := Lib.hid hD
  rw [← hD]
  obtain ⟨LO, hLO⟩ : ∃ L : Int, L = linksOf t.ns es := ⟨_, rfl⟩
  have HLO := Lib.hid hLO
  have HL0 := Lib.hid (show linksK t.ns (es.drop 0) 2 = LO by rw [hLO, List.drop_zero]; rfl)
  clear hw1 bT bN hs hT hE hB hen hnm hD hLO
  generalize dataL n = dl at *
  have hsz := bs_size dl
  unfold Tr.val at KO KN ⊢
  go_enter Tryz.func29, Tryz.ntmps29
  go_upto_region 1 with fail
  change Code.wp _ _ _ _ ((w.alloc (.cells t.vals.toArray 26)).alloc (.cells n.vals.toArray 65))
  rw [← HW1.out]
  have H1 := Lib.hid (And.intro c5 (And.intro rT (And.intro cE (And.intro cL (And.intro cP (And.intro cV (And.intro cD (And.intro cG cK))))))))
  clear HW1
  go_wp2
  go_loopw [5, 6] (fun a i wr => ∃ (x : Int) (k : Nat), a = .int .i64 x ∧ k ≤ es.length ∧ i = .int .i64 k ∧ (∀ y ∈ es.take k, 1 ≤ placeOf t.ns y.gen ∧ y.cookie ≤ n.last) ∧ 2 ≤ x ∧ x ≤ 2 + k ∧ linksK t.ns (es.drop k) x = LO ∧ Below w1.heap.size w1 wr) (fun _ i _ => es.length - (intOf i).toNat)
  case atStart => exact ⟨2, 0, rfl, Nat.zero_le _, rfl, (by simp), by omega, by omega, HL0.out, Below.refl _ _⟩
  case round =>
    obtain ⟨x, k, rfl, hk, rfl, hok, hx0, hx1, hlk, hb⟩ := hrel
    have HLK := Lib.hid hlk
    clear hlk HL0
    obtain ⟨c5, rT, cE, cL, cP, cV, cD, cG, cK⟩ := H1.out
    replace c5 := (hb.cell (p := ⟨w.heap.size, 5, none⟩) hlT).trans c5
    replace rT := (rowOf_below hb hlT 0 6).trans rT
    replace cE := (hb.cell (p := ⟨w.heap.size + 1, 14, none⟩) hlN).trans cE
    replace cL := (hb.cell (p := ⟨w.heap.size + 1, 13, none⟩) hlN).trans cL
    replace cP := (hb.cell (p := ⟨w.heap.size + 1, 12, none⟩) hlN).trans cP
    replace cV := (hb.cell (p := ⟨w.heap.size + 1, 11, none⟩) hlN).trans cV
    replace cD := (hb.cell (p := ⟨w.heap.size + 1, 10, none⟩) hlN).trans cD
    replace cG := (hb.cell (p := ⟨w.heap.size + 1, 7, none⟩) hlN).trans cG
    replace cK := (hb.cell (p := ⟨w.heap.size + 1, 2, none⟩) hlN).trans cK
    have hlT2 := Nat.lt_of_lt_of_le hlT hb.size
    have hlN2 := Nat.lt_of_lt_of_le hlN hb.size
    by_cases hlt : k < es.length
    · obtain ⟨be, oe, hea, hbe, -, ce⟩ := rowCell8 Entry.len (by decide) (HE.out.below hb) hlt
      have cg : wr.cell? ⟨be, oe + k * 15, none⟩ = some (.int .i64 es[k].gen) := ce 0 _ rfl
      have cc : wr.cell? ⟨be, oe + k * 15 + 2, none⟩ = some (.int .i64 es[k].cookie) := ce 2 _ rfl
      rw [hea] at cE
      have hk0 : (0 : Int) ≤ (k : Int) := Int.natCast_nonneg _
      have hk1 : (k : Int) < (es.length : Int) := by omega
      have hiw : IntKind.i64.wrap ((k : Int) + 1) = ((k + 1 : Nat) : Int) := by rw [IntWalk.i64_in _ (by omega)]; omega
      have hxw : IntKind.i64.wrap (x + 1) = x + 1 := IntWalk.i64_in _ (by omega)
      have HNX := Lib.hid (fun (h : 1 ≤ placeOf t.ns es[k].gen ∧ es[k].cookie ≤ n.last) => (show ∀ y ∈ es.take (k + 1), 1 ≤ placeOf t.ns y.gen ∧ y.cookie ≤ n.last by
        intro y hy
        rw [take_next _ _ hlt] at hy
        rcases List.mem_append.1 hy with hy | hy
        · exact hok y hy
        · simp only [List.mem_singleton] at hy
          subst hy
          exact h))
      have HIF := Lib.hid (fun (h : D) => (show 1 ≤ placeOf t.ns es[k].gen ∧ es[k].cookie ≤ n.last by
        rw [HD.out] at h
        exact h.1 _ (List.getElem_mem hlt)))
      have HLN := Lib.hid (fun (p : Nd) (hp : nodeAt t.ns (placeOf t.ns es[k].gen) = p) => (show linksK t.ns (es.drop (k + 1)) (if p.attr.type = 2 then x + 1 else x) = LO by
        rw [← hp, ← linksK_at hlt]
        exact HLK.out))
      have HPk := Lib.hid (fun (h : ¬ placeOf t.ns es[k].gen < 0) => HPL.out es[k].gen (by omega))
      have KOk := Lib.hid (fun W (h : Stb wr W) => KO.out W (hb.trans (h.below.mono hb.size)) es[k].gen)
      have HBr := Lib.hid hb
      generalize es[k] = ek at *
      generalize placeOf t.ns ek.gen = pl at *
      clear hb hok ce cP cV cD cG cK hea HLK
      go_wp2_with fail
      go_region_held3 (fun W => Stb wr W) (first | exact Stb.start | assumption | (exact Stb.alloc (by assumption) _) | (exact Stb.call (by assumption) (by assumption))) (first | (go_at_call 66; refine (KOk.out _ (by assumption)).mono ?_; rintro e w4 ⟨rfl, hb4⟩))
      rename_i hX
      have hst : Stb wr w4 := hX
      clear hX
      have hb := hst.below
      replace c5 := (hb.cell (p := ⟨w.heap.size, 5, none⟩) hlT2).trans c5
      replace cE := (hb.cell (p := ⟨w.heap.size + 1, 14, none⟩) hlN2).trans cE
      replace cL := (hb.cell (p := ⟨w.heap.size + 1, 13, none⟩) hlN2).trans cL
      replace cc := (hb.cell (p := ⟨be, _, none⟩) hbe).trans cc
      have HB4 := Lib.hid (HBr.out.trans (hb.mono HBr.out.size))
      clear hst hb hb4 rT cg KOk HBr
      by_cases hp : pl < 1
      · have HF := Lib.hid (show Below w.heap.size w w4 from below_then HB.out HB4.out)
        have HQ := Lib.hid (show ¬ D from fun h => absurd (HIF.out h).1 (by omega))
        clear HIF
        go_wp2_with fail
        go_quiet (fail)
        go_wp2
        go_ret
        exact TellsP.no HQ.out (bdN HF.out _)
      obtain ⟨p, hp1, hp2, hp3, -⟩ := HPk.out (by omega)
      have HL2 := Lib.hid (HLN.out _ hp3)
      clear hp3 HLN
      subst hp1
      by_cases hck : n.last < ek.cookie
      · have HF := Lib.hid (show Below w.heap.size w w4 from below_then HB.out HB4.out)
        have HQ := Lib.hid (show ¬ D from fun h => absurd (HIF.out h).2 (by omega))
        clear HIF
        go_wp2_with fail
        go_quiet (fail)
        go_wp2
        go_ret
        exact TellsP.no HQ.out (bdN HF.out _)
      have HOK := Lib.hid (HNX.out ⟨by omega, by omega⟩)
      obtain ⟨b1, o1, hna, hb1, -, cn⟩ := rowCell8 Nd.len (by decide) (HT.out.at_.below HB4.out) hp2
      have ct := cn 0 _ rfl
      replace ct : w4.cell? ⟨b1, o1 + p * 15, none⟩ = some (.int .i64 t.ns[p].attr.type) := ct
      rw [hna] at c5
      have hpi0 : (0 : Int) ≤ (p : Int) := Int.natCast_nonneg _
      have hpi1 : (p : Int) < (t.ns.length : Int) := by omega
      generalize t.ns[p].attr.type = ty at *
      clear cn HPk HNX hna HIF
      by_cases hty : ty = 2
      · have HL3 := Lib.hid (show linksK t.ns (es.drop (k + 1)) (x + 1) = LO by have h := HL2.out; rw [if_pos hty] at h; exact h)
        subst hty
        clear HL2
        go_wp2_with fail
        go_quiet (fail)
        go_wp2
        go_roundw
        case rel => exact ⟨_, k + 1, rfl, by omega, by first | rfl | go_num, HOK.out, by omega, by omega, HL3.out, bdN HB4.out _⟩
        case measure => simp [intOf]; omega
      · have HL3 := Lib.hid (show linksK t.ns (es.drop (k + 1)) x = LO by have h := HL2.out; rw [if_neg hty] at h; exact h)
        have hty2 : (ty == 2) = false := by simpa using hty
        clear HL2
        go_wp2_with fail
        go_quiet (fail)
        go_wp2
        go_roundw
        case rel => exact ⟨_, k + 1, rfl, by omega, by first | rfl | go_num, HOK.out, by omega, by omega, HL3.out, bdN HB4.out _⟩
        case measure => simp [intOf]; omega
    · obtain rfl : k = es.length := by omega
      have hlm : ¬ (es.length : Int) < (es.length : Int) := by omega
      rw [List.take_length] at hok
      have HOK := Lib.hid hok
      have HBr := Lib.hid hb
      have hxl : x = LO := by
        have h := HLK.out
        rw [linksK_end (Nat.le_refl _)] at h
        exact h
      have HIF := Lib.hid (show D ↔ (EntsOk es ∧ n.attr.nlink = x ∧ dl.length = 0 ∧ n.verf = 0 ∧ (n.attr.gen = 1 → n.parent = 1) ∧ (n.attr.gen ≠ 1 → (named ps n.attr.gen).1 = 1 ∧ (named ps n.attr.gen).2 = n.parent ∧ comesR t.ns t.ns.length n.parent = true)) by
        rw [HD.out, hxl, HLO.out, ← HDL.out]
        exact ⟨fun h => h.2, fun h => ⟨hok, h⟩⟩)
      clear hok hb HLK hxl
      go_wp2_with fail
      refine (KC.out _ HBr.out).mono ?_
      rintro e w4 ⟨b, rfl, hg, hb⟩
      replace c5 := (hb.cell (p := ⟨w.heap.size, 5, none⟩) hlT2).trans c5
      replace rT := (rowOf_below hb hlT2 0 6).trans rT
      replace cP := (hb.cell (p := ⟨w.heap.size + 1, 12, none⟩) hlN2).trans cP
      replace cV := (hb.cell (p := ⟨w.heap.size + 1, 11, none⟩) hlN2).trans cV
      replace cD := (hb.cell (p := ⟨w.heap.size + 1, 10, none⟩) hlN2).trans cD
      replace cG := (hb.cell (p := ⟨w.heap.size + 1, 7, none⟩) hlN2).trans cG
      replace cK := (hb.cell (p := ⟨w.heap.size + 1, 2, none⟩) hlN2).trans cK
      have hlT3 := Nat.lt_of_lt_of_le hlT2 hb.size
      have hlN3 := Nat.lt_of_lt_of_le hlN2 hb.size
      have HB4 := Lib.hid (HBr.out.trans (hb.mono HBr.out.size))
      have HF := Lib.hid (show Below w.heap.size w w4 from below_then HB.out HB4.out)
      clear hb cE cL HBr
      cases b
      case false =>
        have HQ := Lib.hid (show ¬ D from fun h => by have := hg.2 (HIF.out.1 h).1; cases this)
        clear HIF hg
        go_wp2
        go_ret
        exact TellsP.no HQ.out HF.out
      have HE1 := Lib.hid (hg.1 rfl)
      clear hg
      by_cases q1 : n.attr.nlink = x
      case neg =>
        have q1b : (n.attr.nlink != x) = true := by simpa using q1
        have HQ := Lib.hid (show ¬ D from fun h => q1 (HIF.out.1 h).2.1)
        clear HIF q1
        go_wp2
        go_ret
        exact TellsP.no HQ.out HF.out
      have q1b : (n.attr.nlink != x) = false := by simpa using q1
      by_cases q2 : dl.length = 0
      case neg =>
        have q2b : dl ≠ [] := fun h => q2 (by rw [h]; rfl)
        have q2c : dl.isEmpty = false := by simpa using q2b
        have q2d : (dl != []) = true := by simpa using q2b
        have q2e : (dl == []) = false := by simpa using q2b
        have HQ := Lib.hid (show ¬ D from fun h => q2 (HIF.out.1 h).2.2.1)
        clear HIF q2 q1
        go_wp2
        go_ret
        exact TellsP.no HQ.out HF.out
      obtain rfl : dl = [] := List.eq_nil_of_length_eq_zero q2
      by_cases q3 : n.verf = 0
      case neg =>
        have q3b : (n.verf != 0) = true := by simpa using q3
        have HQ := Lib.hid (show ¬ D from fun h => q3 (HIF.out.1 h).2.2.2.1)
        clear HIF q3 q2 q1
        go_wp2
        go_ret
        exact TellsP.no HQ.out HF.out
      have q3b : (n.verf != 0) = false := by simpa using q3
      have HI2 := Lib.hid (show D ↔ ((n.attr.gen = 1 → n.parent = 1) ∧ (n.attr.gen ≠ 1 → (named ps n.attr.gen).1 = 1 ∧ (named ps n.attr.gen).2 = n.parent ∧ comesR t.ns t.ns.length n.parent = true)) from
        ⟨fun h => (HIF.out.1 h).2.2.2.2, fun h => HIF.out.2 ⟨HE1.out, q1, q2, q3, h⟩⟩)
      clear HIF q1 q2 q3
      by_cases q4 : n.attr.gen = 1
      · have q4b : (n.attr.gen == 1) = true := by simpa using q4
        by_cases q5 : n.parent = 1
        · have HQ := Lib.hid (show D from HI2.out.2 ⟨fun _ => q5, fun h => absurd q4 h⟩)
          have q5b : (n.parent == 1) = true := by simpa using q5
          clear HI2 q4 q5
          go_wp2
          go_ret
          exact TellsP.yes HQ.out HF.out
        · have HQ := Lib.hid (show ¬ D from fun h => q5 ((HI2.out.1 h).1 q4))
          have q5b : (n.parent == 1) = false := by simpa using q5
          clear HI2 q4 q5
          go_wp2
          go_ret
          exact TellsP.no HQ.out HF.out
      have q4b : (n.attr.gen == 1) = false := by simpa using q4
      have HI3 := Lib.hid (show D ↔ ((named ps n.attr.gen).1 = 1 ∧ (named ps n.attr.gen).2 = n.parent ∧ comesR t.ns t.ns.length n.parent = true) from
        ⟨fun h => (HI2.out.1 h).2 q4, fun h => HI2.out.2 ⟨fun h2 => absurd h2 q4, fun _ => h⟩⟩)
      have KNx := Lib.hid (KN.out w4 HB4.out)
      generalize named ps n.attr.gen = R at *
      obtain ⟨y, d⟩ := R
      clear HI2 q4 KN
      go_wp2_with fail
      refine KNx.out.mono ?_
      rintro e w5 ⟨rfl, hb⟩
      replace c5 := (hb.cell (p := ⟨w.heap.size, 5, none⟩) hlT3).trans c5
      replace rT := (rowOf_below hb hlT3 0 6).trans rT
      replace cP := (hb.cell (p := ⟨w.heap.size + 1, 12, none⟩) hlN3).trans cP
      have hlT4 := Nat.lt_of_lt_of_le hlT3 hb.size
      have HB5 := Lib.hid (HB4.out.trans (hb.mono HB4.out.size))
      replace HF := Lib.hid (show Below w.heap.size w w5 from below_then HB.out HB5.out)
      have H5 := Lib.hid (And.intro c5 rT)
      clear hb cV cD cG cK KNx
      by_cases hy : y = 1
      case neg =>
        have hy1 : (y != 1) = true := by simpa using hy
        have HQ := Lib.hid (show ¬ D from fun h => hy (HI3.out.1 h).1)
        clear HI3 hy
        go_wp2
        go_ret
        exact TellsP.no HQ.out HF.out
      subst hy
      by_cases hd : d = n.parent
      case neg =>
        have hd1 : (d != n.parent) = true := by simpa using hd
        have HQ := Lib.hid (show ¬ D from fun h => hd (HI3.out.1 h).2.1)
        clear HI3 hd
        go_wp2
        go_ret
        exact TellsP.no HQ.out HF.out
      subst hd
      have HI4 := Lib.hid (show D ↔ comesR t.ns t.ns.length n.parent = true from ⟨fun h => (HI3.out.1 h).2.2, fun h => HI3.out.2 ⟨rfl, rfl, h⟩⟩)
      clear HI3
      go_wp2
      go_loopw [10, 11] (fun a i wr => ∃ (x : Int) (k : Nat), a = .int .i64 x ∧ k ≤ t.ns.length ∧ i = .int .i64 k ∧ (D ↔ comesR t.ns (t.ns.length - k) x = true) ∧ Below w5.heap.size w5 wr) (fun _ i _ => t.ns.length - (intOf i).toNat)
      case atStart => exact ⟨_, 0, rfl, Nat.zero_le _, rfl, HI4.out, Below.refl _ _⟩
      case round =>
        obtain ⟨x, k, rfl, hk, rfl, hD, hb⟩ := hrel
        have HDD := Lib.hid hD
        clear hD HI4
        obtain ⟨c5, rT⟩ := H5.out
        replace c5 := (hb.cell (p := ⟨w.heap.size, 5, none⟩) hlT4).trans c5
        replace rT := (rowOf_below hb hlT4 0 6).trans rT
        have hlT5 := Nat.lt_of_lt_of_le hlT4 hb.size
        have HBr := Lib.hid (HB5.out.trans (hb.mono HB5.out.size))
        have HFr := Lib.hid (show Below w.heap.size w wr from below_then HB.out HBr.out)
        have hk0 : (0 : Int) ≤ (k : Int) := Int.natCast_nonneg _
        have HBb := Lib.hid hb
        clear hb cP
        by_cases hx : x = 1
        · have HQ := Lib.hid (show D from HDD.out.2 (by
            cases hz : t.ns.length - k with
            | zero => rw [comesR, hx]; rfl
            | succ q => rw [comesR, if_pos hx]))
          subst hx
          clear HDD
          go_wp2
          all_goals
            go_ret
            exact TellsP.yes HQ.out HFr.out
        have hx1 : (x != 1) = true := by simpa using hx
        have hx2 : (x == 1) = false := by simpa using hx
        by_cases hlt : k < t.ns.length
        · have hk1 : (k : Int) < (t.ns.length : Int) := by omega
          have hiw : IntKind.i64.wrap ((k : Int) + 1) = ((k + 1 : Nat) : Int) := by rw [IntWalk.i64_in _ (by omega)]; omega
          have HD2 := Lib.hid (show D ↔ (if placeOf t.ns x < 0 then false else comesR t.ns (t.ns.length - (k + 1)) (nodeAt t.ns (placeOf t.ns x)).parent) = true by
            have h := HDD.out
            rw [show t.ns.length - k = t.ns.length - (k + 1) + 1 by omega, comesR, if_neg hx] at h
            exact h)
          have KOk := Lib.hid (KO.out wr HBr.out x)
          have HPk := Lib.hid (fun (h : ¬ placeOf t.ns x < 0) => HPL.out x (by omega))
          generalize placeOf t.ns x = pl at *
          clear HDD
          go_wp2_with fail
          refine KOk.out.mono ?_
          rintro e w6 ⟨rfl, hb6⟩
          replace c5 := (hb6.cell (p := ⟨w.heap.size, 5, none⟩) hlT5).trans c5
          have HB6 := Lib.hid (HBr.out.trans (hb6.mono HBr.out.size))
          have HF6 := Lib.hid (show Below w.heap.size w w6 from below_then HB.out HB6.out)
          have HR6 := Lib.hid (HBb.out.trans (hb6.mono HBb.out.size))
          clear hb6 rT KOk
          by_cases hp : pl < 0
          · have HQ := Lib.hid (show ¬ D from fun h => by have := HD2.out.1 h; rw [if_pos hp] at this; cases this)
            clear HD2
            go_wp2
            go_ret
            exact TellsP.no HQ.out HF6.out
          obtain ⟨p, hp1, hp2, hp3, -⟩ := HPk.out (by omega)
          have HD3 := Lib.hid (show D ↔ comesR t.ns (t.ns.length - (k + 1)) (t.ns[p]).parent = true by
            have h := HD2.out
            rw [if_neg hp, hp3] at h
            exact h)
          clear hp3 HD2
          subst hp1
          obtain ⟨b1, o1, hna, hb1, -, cn⟩ := rowCell8 Nd.len (by decide) (HT.out.at_.below HB6.out) hp2
          have ct : World.cell? _ _ = some (.int .i64 (t.ns[p]).parent) := cn 12 _ rfl
          rw [hna] at c5
          have hpi0 : (0 : Int) ≤ (p : Int) := Int.natCast_nonneg _
          have hpi1 : (p : Int) < (t.ns.length : Int) := by omega
          generalize (t.ns[p]).parent = pp at *
          clear cn HPk hna
          go_wp2
          go_roundw
          case rel => first
            | exact ⟨_, k + 1, rfl, by omega, by first | rfl | go_num, HD3.out, HR6.out⟩
            | (repeat apply Exists.intro
               refine ⟨?_, rfl⟩
               exact ⟨_, k + 1, rfl, by omega, by first | rfl | go_num, HD3.out, HR6.out⟩)
          case measure => simp [intOf]; omega
        · obtain rfl : k = t.ns.length := by omega
          have hlm : ¬ (t.ns.length : Int) < (t.ns.length : Int) := by omega
          have HQ := Lib.hid (show ¬ D from fun h => by have := HDD.out.1 h; rw [Nat.sub_self, comesR, hx2] at this; cases this)
          clear HDD
          go_wp2
          go_ret
          exact TellsP.no HQ.out HFr.out
end Go.Proofs.YtgifmpobokaejaaGreatDoor
