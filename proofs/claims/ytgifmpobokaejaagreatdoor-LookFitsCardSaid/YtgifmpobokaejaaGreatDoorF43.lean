/-
  Layer 22, walks: how the document looks whether a tree may be, exact (written by wip/tools/genlookoke.py). Conditions: a tree that is not too large.
-/
import Derived.Test.YtgifmpobokaejaaGreatDoorF40
import Derived.Test.YtgifmpobokaejaaGreatDoorF41
import Derived.Test.YtgifmpobokaejaaGreatDoorF42
namespace Go.Proofs.YtgifmpobokaejaaGreatDoor
open Go.RowKit
open Go.RowKit
attribute [local go_sem ↓] Go.wp_at_zero Go.wp_at_succ
attribute [local go_sem] rowAt_ptr rowOf_drew rowOf_drewN rowOf_alloc_past rowOf_new
attribute [local go_sem ↓] ldNode22 ldTree22 ldAttrR ldEntry ldLim22

theorem getD_nd {ns : List Nd} {k : Nat} (h : k < ns.length) : ns.getD k ndZ = ns[k] := by
  simp [List.getD, List.getElem?_eq_getElem h]
set_option maxRecDepth 20000 in
set_option maxHeartbeats 6400000 in
theorem refCheck22_iff (t : Tr) (ps : List (Nd × List Entry)) (w : World) (hT : TreeH w t ps) :
    Calls Tryz.prog 9 #[t.val] w (TellsP (TreeOk (comesD t.ns) t ps) w) := by
  have bT := Blk.new w 26 t.vals
  have hB : Below w.heap.size w (w.alloc (.cells t.vals.toArray 26)) := (Below.refl _ _).alloc (Nat.le_refl _) _
  obtain ⟨w1, hw1⟩ : ∃ V, V = w.alloc (.cells t.vals.toArray 26) := ⟨_, rfl⟩
  rw [← hw1] at bT hB
  have c5 : w1.cell? ⟨w.heap.size, 5, none⟩ = some (.slice t.na t.ns.length t.nc) := bT.cell 5
  have c2 : w1.cell? ⟨w.heap.size, 2, none⟩ = some (.int .i64 t.lim.nodes) := bT.cell 2
  have c3 : w1.cell? ⟨w.heap.size, 3, none⟩ = some (.int .i64 t.now) := bT.cell 3
  have c4 : w1.cell? ⟨w.heap.size, 4, none⟩ = some (.int .i64 t.gens) := bT.cell 4
  have rL : rowOf w1 w.heap.size 0 3 = some t.lim.vals.toArray := bT.row 0 3 (by rw [Tr.len]; omega)
  have rT : rowOf w1 w.heap.size 0 6 = some t.vals.toArray := bT.row 0 6 (by rw [Tr.len]; omega)
  have hlT := bT.lt
  have HW1 := Lib.hid hw1
  have HT := Lib.hid (hT.below hB)
  have KL := Lib.hid (fun W => refCheck_any t.lim W)
  have HB := Lib.hid hB
  have hlen := hT.few.1
  have hlp : t.ns.length = ps.length := by rw [hT.ns, List.length_map]
  have HD := Lib.hid (show TreeOk (comesD t.ns) t ps ↔ (t.lim.ok = true ∧ 1 ≤ t.ns.length ∧ (t.ns.length : Int) ≤ t.lim.nodes ∧ ∀ (j : Nat) (hj : j < ps.length), NodOk (comesD t.ns) t ps j ps[j].1 ps[j].2) from Iff.rfl)
  generalize TreeOk (comesD t.ns) t ps = D at *
  have HLP := Lib.hid hlp
  clear hw1 bT hT hB hlp
  unfold Tr.val
  go_enter Tryz.func9, Tryz.ntmps9
  go_upto_region 1 with fail
  change Code.wp _ _ _ _ (w.alloc (.cells t.vals.toArray 26))
  rw [← HW1.out]
  go_wp2_with fail
  refine (KL.out _).mono ?_
  rintro e w2 ⟨rfl, hb⟩
  replace c2 := (hb.cell (p := ⟨w.heap.size, 2, none⟩) hlT).trans c2
  replace c3 := (hb.cell (p := ⟨w.heap.size, 3, none⟩) hlT).trans c3
  replace c4 := (hb.cell (p := ⟨w.heap.size, 4, none⟩) hlT).trans c4
  replace c5 := (hb.cell (p := ⟨w.heap.size, 5, none⟩) hlT).trans c5
  replace rT := (rowOf_below hb hlT 0 6).trans rT
  have hlT2 := Nat.lt_of_lt_of_le hlT hb.size
  have HF := Lib.hid (show Below w.heap.size w w2 from below_then HB.out hb)
  have HT2 := Lib.hid (HT.out.below hb)
  clear hb rL hlT HT HB HW1 KL
  cases hlo : t.lim.ok
  case false =>
    have HQ := Lib.hid (show ¬ D from fun h => by have := (HD.out.1 h).1; rw [hlo] at this; cases this)
    clear hlo
    go_wp2
    go_ret
    exact TellsP.no HQ.out HF.out
  have HLO := Lib.hid hlo
  clear hlo
  by_cases q1 : 1 ≤ t.ns.length
  case neg =>
    have q1b : (t.ns.length : Int) < 1 := by omega
    have HQ := Lib.hid (show ¬ D from fun h => q1 (HD.out.1 h).2.1)
    clear q1
    go_wp2
    go_ret
    exact TellsP.no HQ.out HF.out
  have q1b : ¬ (t.ns.length : Int) < 1 := by omega
  by_cases q2 : (t.ns.length : Int) ≤ t.lim.nodes
  case neg =>
    have q2b : t.lim.nodes < (t.ns.length : Int) := by omega
    have HQ := Lib.hid (show ¬ D from fun h => q2 (HD.out.1 h).2.2.1)
    clear q1 q2
    go_wp2
    go_ret
    exact TellsP.no HQ.out HF.out
  have q2b : ¬ t.lim.nodes < (t.ns.length : Int) := by omega
  have HDN := Lib.hid (show D ↔ ∀ (j : Nat) (hj : j < ps.length), NodOk (comesD t.ns) t ps j ps[j].1 ps[j].2 from ⟨fun h => (HD.out.1 h).2.2.2, fun h => HD.out.2 ⟨HLO.out, q1, q2, h⟩⟩)
  have HTr := Lib.hid (And.intro c3 (And.intro c4 (And.intro c5 rT)))
  clear HD HLO
  go_wp2
  clear c2 c3 c4 c5 rT q1 q2 q1b q2b
  go_loopw [3] (fun i wr => ∃ k : Nat, k ≤ t.ns.length ∧ i = .int .i64 k ∧ NodsK (comesD t.ns) t ps k ∧ Below w2.heap.size w2 wr) (fun i _ => t.ns.length - (intOf i).toNat)
  case atStart => exact ⟨0, Nat.zero_le _, rfl, NodsK.zero, Below.refl _ _⟩
  case round =>
    obtain ⟨k, hk, rfl, hok, hb⟩ := hrel
    obtain ⟨c3, c4, c5, rT⟩ := HTr.out
    replace c3 := (hb.cell (p := ⟨w.heap.size, 3, none⟩) hlT2).trans c3
    replace c4 := (hb.cell (p := ⟨w.heap.size, 4, none⟩) hlT2).trans c4
    replace c5 := (hb.cell (p := ⟨w.heap.size, 5, none⟩) hlT2).trans c5
    replace rT := (rowOf_below hb hlT2 0 6).trans rT
    have hlT3 := Nat.lt_of_lt_of_le hlT2 hb.size
    have hk0 : (0 : Int) ≤ (k : Int) := Int.natCast_nonneg _
    by_cases hlt : k < t.ns.length
    · have hk1 : (k : Int) < (t.ns.length : Int) := by omega
      have hiw : IntKind.i64.wrap ((k : Int) + 1) = ((k + 1 : Nat) : Int) := by rw [IntWalk.i64_in _ (by omega)]; omega
      have hns := HT2.out.ns
      have hkp : k < ps.length := by rw [hns, List.length_map] at hlt; exact hlt
      obtain ⟨p, hp⟩ : ∃ p, p = ps[k] := ⟨_, rfl⟩
      have hpm : p ∈ ps := hp ▸ List.getElem_mem hkp
      have hnk : t.ns[k] = p.1 := by rw [hp]; simp only [hns, List.getElem_map]
      have HNX := Lib.hid (fun (h : NodOk (comesD t.ns) t ps k p.1 p.2) => (show NodsK (comesD t.ns) t ps (k + 1) from hok.next hkp (hp ▸ h)))
      have HIF := Lib.hid (fun (h : D) => (show NodOk (comesD t.ns) t ps k p.1 p.2 from hp ▸ HDN.out.1 h k hkp))
      obtain ⟨nd, es⟩ := p
      simp only at hnk
      obtain ⟨b1, o1, hna, hb1, rn, -⟩ := rowCell8 Nd.len (by decide) ((HT2.out.below hb).at_) hlt
      rw [hnk] at rn
      rw [hna] at c5
      have hen := (HT2.out.ents _ hpm).1
      have hE := (HT2.out.ents _ hpm).2
      have hrw := HT2.out.rows _ hpm
      have hdl : (dataL nd).length ≤ 1048576 := by
        have h1 : nd ∈ t.ns := by rw [hns]; exact List.mem_map_of_mem hpm
        have := HT2.out.few.2 _ h1
        rw [dataL_len]
        omega
      simp only at hen hE hrw
      have KC := Lib.hid (fun W => refCheck5_any nd.attr W)
      have KD := Lib.hid (fun W (h : Below w2.heap.size w2 W) => refDirectory_iff t ps nd es W (HT2.out.below h) hen hrw.1 hrw.2 hdl (hE.below h))
      have KO := Lib.hid (fun W (h : Below w2.heap.size w2 W) => refOther_iff t ps nd es W (HT2.out.below h) hen hdl)
      have HAt := Lib.hid (fun W (h : Below w2.heap.size w2 W) (j : Nat) (hj : j < t.ns.length) => (show (∀ q u, ((t.ns.getD j ndZ).vals)[q]? = some u → W.cell? ⟨b1, o1 + j * 15 + q, none⟩ = some u) by
        rw [getD_nd hj]
        obtain ⟨b2, o2, hna2, -, -, cc⟩ := rowCell8 Nd.len (by decide) ((HT2.out.below h).at_) hj
        rw [hna] at hna2
        injection hna2 with h1
        injection h1 with h2 h3 h4
        subst h2 h3
        exact cc))
      have HBr := Lib.hid hb
      have HND := Lib.hid (show NodOk (comesD t.ns) t ps k nd es ↔ (nd.attr.ok = true ∧ 1 ≤ nd.attr.id ∧ 1 ≤ nd.attr.gen ∧ nd.attr.gen ≤ t.gens ∧ nd.attr.change ≤ t.now ∧ nd.attr.size = (nd.data.size : Int) ∧ (k = 0 → nd.attr.gen = 1 ∧ nd.attr.type = 2) ∧
        (0 < k → (t.ns.getD (k - 1) ndZ).attr.gen < nd.attr.gen) ∧ (∀ j, j < k → (t.ns.getD j ndZ).attr.id ≠ nd.attr.id) ∧ (nd.attr.type = 2 → DirOk (comesD t.ns) ps t.ns nd es) ∧ (nd.attr.type ≠ 2 → OthOk ps nd es)) from Iff.rfl)
      have bN := Blk.new wr 65 nd.vals
      have hbN : Below wr.heap.size wr (wr.alloc (.cells nd.vals.toArray 65)) := (Below.refl _ _).alloc (Nat.le_refl _) _
      clear hok hb hp hpm hnk hna hen hE hrw hdl hns hkp
      unfold Tr.val at KD KO
      simp only at HNX HIF
      generalize NodOk (comesD t.ns) t ps k nd es = NO at *
      generalize DirOk (comesD t.ns) ps t.ns nd es = DP at *
      generalize OthOk ps nd es = OP at *
      go_upto_region 7 with (first | (refine wpList_new_struct (by rfl) (by rfl) 65 (by rfl) _ _ (by rfl) nd.vals infoNode (by rfl) (by rfl) (Nd.one _) (by rfl) (by rfl) ?_) | fail)
      generalize wr.alloc (.cells nd.vals.toArray 65) = w5 at *
      have rA : rowOf w5 wr.heap.size 0 10 = some nd.attr.vals.toArray := bN.row 0 10 (by rw [Nd.len]; omega)
      have bA := Blk.new w5 40 nd.attr.vals
      have hbA : Below w5.heap.size w5 (w5.alloc (.cells nd.attr.vals.toArray 40)) := (Below.refl _ _).alloc (Nat.le_refl _) _
      go_upto_region 8 with (first | (refine wpList_new_struct (by rfl) (by rfl) 40 (by rfl) _ _ (by rfl) nd.attr.vals infoAttr22 (by rfl) (by rfl) (Attr.one _) (by rfl) (by rfl) ?_) | fail)
      replace bN := bN.stays hbA
      have hbw6 := below_then hbN hbA
      generalize w5.alloc (.cells nd.attr.vals.toArray 40) = w6 at *
      have rA6 : rowOf w6 w5.heap.size 0 10 = some nd.attr.vals.toArray := bA.row 0 10 (by rw [Attr.len]; omega)
      clear rn rA hbN hbA
      go_wp2_with fail
      refine (KC.out _).mono ?_
      rintro e w7 ⟨rfl, hb⟩
      replace bN := bN.stays hb
      replace bA := bA.stays hb
      have hb7 := below_then hbw6 hb
      replace c3 := (hb7.cell (p := ⟨w.heap.size, 3, none⟩) hlT3).trans c3
      replace c4 := (hb7.cell (p := ⟨w.heap.size, 4, none⟩) hlT3).trans c4
      replace c5 := (hb7.cell (p := ⟨w.heap.size, 5, none⟩) hlT3).trans c5
      replace rT := (rowOf_below hb7 hlT3 0 6).trans rT
      have a0 : w7.cell? ⟨w5.heap.size, 0, none⟩ = some (.int .i64 nd.attr.type) := bA.cell 0
      have a5 : w7.cell? ⟨w5.heap.size, 5, none⟩ = some (.int .i64 nd.attr.size) := bA.cell 5
      have a6 : w7.cell? ⟨w5.heap.size, 6, none⟩ = some (.int .i64 nd.attr.id) := bA.cell 6
      have a7 : w7.cell? ⟨w5.heap.size, 7, none⟩ = some (.int .i64 nd.attr.gen) := bA.cell 7
      have a8 : w7.cell? ⟨w5.heap.size, 8, none⟩ = some (.int .i64 nd.attr.change) := bA.cell 8
      have d10 : w7.cell? ⟨wr.heap.size, 10, none⟩ = some (.string nd.data) := bN.cell 10
      have rN : rowOf w7 wr.heap.size 0 15 = some nd.vals.toArray := bN.row 0 15 (by rw [Nd.len]; omega)
      have hlA7 := bA.lt
      have hlN7 := bN.lt
      have hlT7 := Nat.lt_of_lt_of_le hlT3 hb7.size
      have HB7 := Lib.hid (HBr.out.trans (hb7.mono HBr.out.size))
      have HF7 := Lib.hid (show Below w.heap.size w w7 from below_then HF.out HB7.out)
      clear hb hb7 hbw6 bN bA rA6 KC
      generalize nd.attr.ok = oka at *
      generalize nd.attr.type = ty at *
      generalize nd.attr.gen = gn at *
      generalize nd.attr.id = id at *
      generalize nd.attr.size = sz at *
      generalize nd.attr.change = cg at *
      cases oka
      case false =>
        have HQ := Lib.hid (show ¬ D from fun h => by have := (HND.out.1 (HIF.out h)).1; cases this)
        go_wp2
        go_ret
        exact TellsP.no HQ.out HF7.out
      by_cases q1 : id < 1
      · have HQ := Lib.hid (show ¬ D from fun h => absurd (HND.out.1 (HIF.out h)).2.1 (by omega))
        go_wp2
        go_ret
        exact TellsP.no HQ.out HF7.out
      have q1d : decide (id < 1) = false := decide_eq_false q1
      by_cases q2 : gn < 1
      · have HQ := Lib.hid (show ¬ D from fun h => absurd (HND.out.1 (HIF.out h)).2.2.1 (by omega))
        go_wp2
        go_ret
        exact TellsP.no HQ.out HF7.out
      have q2d : decide (gn < 1) = false := decide_eq_false q2
      by_cases q3 : t.gens < gn
      · have HQ := Lib.hid (show ¬ D from fun h => absurd (HND.out.1 (HIF.out h)).2.2.2.1 (by omega))
        go_wp2
        go_ret
        exact TellsP.no HQ.out HF7.out
      have q3d : decide (t.gens < gn) = false := decide_eq_false q3
      by_cases q4 : t.now < cg
      · have HQ := Lib.hid (show ¬ D from fun h => absurd (HND.out.1 (HIF.out h)).2.2.2.2.1 (by omega))
        go_wp2
        go_ret
        exact TellsP.no HQ.out HF7.out
      have q4d : decide (t.now < cg) = false := decide_eq_false q4
      by_cases q5 : sz = (nd.data.size : Int)
      case neg =>
        have hsz1 : (sz != (nd.data.size : Int)) = true := by simpa using q5
        have HQ := Lib.hid (show ¬ D from fun h => q5 (HND.out.1 (HIF.out h)).2.2.2.2.2.1)
        clear q5
        go_wp2
        go_ret
        exact TellsP.no HQ.out HF7.out
      have hq3 : (sz != (nd.data.size : Int)) = false := by simpa using q5
      have HN2 := Lib.hid (show NO ↔ ((k = 0 → gn = 1 ∧ ty = 2) ∧ (0 < k → (t.ns.getD (k - 1) ndZ).attr.gen < gn) ∧ (∀ j, j < k → (t.ns.getD j ndZ).attr.id ≠ id) ∧ (ty = 2 → DP) ∧ (ty ≠ 2 → OP)) from
        ⟨fun h => (HND.out.1 h).2.2.2.2.2.2, fun h => HND.out.2 ⟨rfl, by omega, by omega, by omega, by omega, q5, h⟩⟩)
      clear HND q5
      go_wp2_with fail
      clear c3 c4 a5 a8 d10 hq3
      have hprev : ∀ (h : 0 < k), w7.cell? ⟨b1, o1 + (k - 1) * 15 + 7, none⟩ = some (.int .i64 (t.ns.getD (k - 1) ndZ).attr.gen) := fun h => HAt.out w7 HB7.out (k - 1) (by omega) 7 _ rfl
      by_cases hz : k = 0
      · have hz0 : ((k : Int) == 0) = true := by simp [hz]
        have hz1 : ¬ (0 : Int) < (k : Int) := by omega
        have hz2 : ¬ 0 < k := by omega
        clear hprev
        by_cases h2 : gn = 1
        case neg =>
          have h2' : (gn != 1) = true := by simpa using h2
          have HQ := Lib.hid (show ¬ D from fun h => h2 ((HN2.out.1 (HIF.out h)).1 hz).1)
          clear hz h2
          go_quiet (fail)
          go_wp2
          go_ret
          exact TellsP.no HQ.out (bdN HF7.out _)
        have h2' : (gn != 1) = false := by simpa using h2
        by_cases h3 : ty = 2
        case neg =>
          have h3' : (ty != 2) = true := by simpa using h3
          have HQ := Lib.hid (show ¬ D from fun h => h3 ((HN2.out.1 (HIF.out h)).1 hz).2)
          clear hz h2 h3
          go_quiet (fail)
          go_wp2
          go_ret
          exact TellsP.no HQ.out (bdN HF7.out _)
        have h3' : (ty != 2) = false := by simpa using h3
        have HN3 := Lib.hid (show NO ↔ ((∀ j, j < k → (t.ns.getD j ndZ).attr.id ≠ id) ∧ (ty = 2 → DP) ∧ (ty ≠ 2 → OP)) from
          ⟨fun h => (HN2.out.1 h).2.2, fun h => HN2.out.2 ⟨fun _ => ⟨h2, h3⟩, fun h0 => absurd h0 hz2, h⟩⟩)
        have H3 := Lib.hid h3
        have HZ2 := Lib.hid hz2
        clear hz h2 h3 HN2
        go_quiet (fail)
        go_wp2
        go_loopw [6] (fun j V => ∃ m : Nat, m ≤ k ∧ j = .int .i64 m ∧ (∀ j, j < m → (t.ns.getD j ndZ).attr.id ≠ id) ∧ Below w7.heap.size w7 V) (fun j _ => k - (intOf j).toNat)
        case atStart => exact ⟨0, Nat.zero_le _, rfl, fun _ h => absurd h (Nat.not_lt_zero _), bdN (Below.refl _ _) _⟩
        case round =>
          rename_i V _
          obtain ⟨m, hm, rfl, hids, hbV⟩ := hrel
          have HBV := Lib.hid (HB7.out.trans (hbV.mono HB7.out.size))
          have HFV := Lib.hid (show Below w.heap.size w _ from below_then HF.out HBV.out)
          have HIDS := Lib.hid hids
          have hm0 : (0 : Int) ≤ (m : Int) := Int.natCast_nonneg _
          replace c5 := (hbV.cell (p := ⟨w.heap.size, 5, none⟩) hlT7).trans c5
          replace rT := (rowOf_below hbV hlT7 0 6).trans rT
          replace a0 := (hbV.cell (p := ⟨w5.heap.size, 0, none⟩) hlA7).trans a0
          replace a6 := (hbV.cell (p := ⟨w5.heap.size, 6, none⟩) hlA7).trans a6
          replace rN := (rowOf_below hbV hlN7 0 15).trans rN
          clear a7 hids
          have HbV := Lib.hid hbV
          clear hbV
          by_cases hmk : m < k
          · exact absurd hmk (by have := HZ2.out; omega)
          · obtain rfl : m = k := by omega
            have hmm : ¬ (m : Int) < (m : Int) := by omega
            have HN4 := Lib.hid (show NO ↔ ((ty = 2 → DP) ∧ (ty ≠ 2 → OP)) from ⟨fun h => (HN3.out.1 h).2, fun h => HN3.out.2 ⟨HIDS.out, h⟩⟩)
            clear HN3 HIDS
            by_cases ht : ty = 2
            · have HN5 := Lib.hid (show NO ↔ DP from ⟨fun h => (HN4.out.1 h).1 ht, fun h => HN4.out.2 ⟨fun _ => h, fun h2 => absurd ht h2⟩⟩)
              have ht1 : (ty == 2) = true := by simpa using ht
              have ht2 : (ty != 2) = false := by simpa using ht
              clear HN4 ht
              go_wp2_with fail
              refine (KD.out _ HBV.out).mono ?_
              rintro e w9 ⟨b, rfl, hd, hb9⟩
              replace a0 := (hb9.cell (p := ⟨w5.heap.size, 0, none⟩) (Nat.lt_of_lt_of_le hlA7 HbV.out.size)).trans a0
              have HB9 := Lib.hid (HBV.out.trans (hb9.mono HBV.out.size))
              have HF9 := Lib.hid (show Below w.heap.size w w9 from below_then HF.out HB9.out)
              clear hb9
              cases b
              case false =>
                have HQ := Lib.hid (show ¬ D from fun h => by have := hd.2 (HN5.out.1 (HIF.out h)); cases this)
                clear hd
                go_wp2
                go_ret
                exact TellsP.no HQ.out HF9.out
              have HN := Lib.hid (HNX.out (HN5.out.2 (hd.1 rfl)))
              clear hd
              go_wp2
              go_roundw
              case rel => first
                | exact ⟨m + 1, by omega, by first | rfl | go_num, HN.out, HB9.out⟩
                | (repeat apply Exists.intro
                   refine ⟨?_, rfl⟩
                   exact ⟨m + 1, by omega, by first | rfl | go_num, HN.out, HB9.out⟩)
              case measure => simp [intOf]; omega
            · exact absurd H3.out ht
      · have hz0 : ((k : Int) == 0) = false := by simp; omega
        have hz1 : (0 : Int) < (k : Int) := by omega
        have hz3 : 0 < k := by omega
        have hwk : IntKind.i64.wrap ((k : Int) - 1) = ((k - 1 : Nat) : Int) := by rw [IntWalk.i64_in _ (by omega)]; omega
        have hp0 : (0 : Int) ≤ ((k - 1 : Nat) : Int) := Int.natCast_nonneg _
        have hp1 : ((k - 1 : Nat) : Int) < (t.ns.length : Int) := by omega
        have hpc := hprev (by omega)
        have HN3 := Lib.hid (show NO ↔ ((t.ns.getD (k - 1) ndZ).attr.gen < gn ∧ (∀ j, j < k → (t.ns.getD j ndZ).attr.id ≠ id) ∧ (ty = 2 → DP) ∧ (ty ≠ 2 → OP)) from
          ⟨fun h => ⟨(HN2.out.1 h).2.1 (by omega), (HN2.out.1 h).2.2⟩, fun h => HN2.out.2 ⟨fun h0 => absurd h0 hz, fun _ => h.1, h.2⟩⟩)
        generalize (t.ns.getD (k - 1) ndZ).attr.gen = pg at *
        clear hprev HN2
        by_cases hpg : pg < gn
        case neg =>
          have hpg1 : gn ≤ pg := by omega
          have HQ := Lib.hid (show ¬ D from fun h => hpg (HN3.out.1 (HIF.out h)).1)
          clear hz
          go_quiet (fail)
          go_wp2
          go_ret
          exact TellsP.no HQ.out (bdN HF7.out _)
        have hpg1 : ¬ gn ≤ pg := by omega
        replace HN3 := Lib.hid (show NO ↔ ((∀ j, j < k → (t.ns.getD j ndZ).attr.id ≠ id) ∧ (ty = 2 → DP) ∧ (ty ≠ 2 → OP)) from ⟨fun h => (HN3.out.1 h).2, fun h => HN3.out.2 ⟨hpg, h⟩⟩)
        go_quiet (fail)
        clear hpc hpg hpg1 hz hz3
        go_wp2
        go_loopw [6] (fun j V => ∃ m : Nat, m ≤ k ∧ j = .int .i64 m ∧ (∀ j, j < m → (t.ns.getD j ndZ).attr.id ≠ id) ∧ Below w7.heap.size w7 V) (fun j _ => k - (intOf j).toNat)
        case atStart => exact ⟨0, Nat.zero_le _, rfl, fun _ h => absurd h (Nat.not_lt_zero _), bdN (Below.refl _ _) _⟩
        case round =>
          rename_i V _
          obtain ⟨m, hm, rfl, hids, hbV⟩ := hrel
          have HBV := Lib.hid (HB7.out.trans (hbV.mono HB7.out.size))
          have HFV := Lib.hid (show Below w.heap.size w _ from below_then HF.out HBV.out)
          have HIDS := Lib.hid hids
          have hm0 : (0 : Int) ≤ (m : Int) := Int.natCast_nonneg _
          replace c5 := (hbV.cell (p := ⟨w.heap.size, 5, none⟩) hlT7).trans c5
          replace rT := (rowOf_below hbV hlT7 0 6).trans rT
          replace a0 := (hbV.cell (p := ⟨w5.heap.size, 0, none⟩) hlA7).trans a0
          replace a6 := (hbV.cell (p := ⟨w5.heap.size, 6, none⟩) hlA7).trans a6
          replace rN := (rowOf_below hbV hlN7 0 15).trans rN
          clear a7 hids
          have HbV := Lib.hid hbV
          clear hbV
          by_cases hmk : m < k
          · have hm1 : (m : Int) < (k : Int) := by omega
            have hm2 : (m : Int) < (t.ns.length : Int) := by omega
            have him : IntKind.i64.wrap ((m : Int) + 1) = ((m + 1 : Nat) : Int) := by rw [IntWalk.i64_in _ (by omega)]; omega
            have hid6 : World.cell? _ _ = some (.int .i64 (t.ns.getD m ndZ).attr.id) := HAt.out _ HBV.out m (by omega) 6 _ rfl
            by_cases hid : (t.ns.getD m ndZ).attr.id = id
            · have HQ := Lib.hid (show ¬ D from fun h => (HN3.out.1 (HIF.out h)).1 m hmk hid)
              rw [hid] at hid6
              clear hid
              go_wp2_with fail
              go_quiet (fail)
              go_wp2
              go_ret
              exact TellsP.no HQ.out (bdN HFV.out _)
            · have hid2 : ((t.ns.getD m ndZ).attr.id == id) = false := by simpa using hid
              have HI2 := Lib.hid (show ∀ j, j < m + 1 → (t.ns.getD j ndZ).attr.id ≠ id from fun j hj => by
                rcases Nat.lt_or_ge j m with h1 | h1
                · exact HIDS.out j h1
                · obtain rfl : j = m := by omega
                  exact hid)
              clear hid
              generalize (t.ns.getD m ndZ).attr.id = im at *
              go_wp2_with fail
              go_quiet (fail)
              go_wp2
              go_roundw
              case rel => exact ⟨m + 1, by omega, by first | rfl | go_num, HI2.out, bdN HbV.out _⟩
              case measure => simp [intOf]; omega
          · obtain rfl : m = k := by omega
            have hmm : ¬ (m : Int) < (m : Int) := by omega
            have HN4 := Lib.hid (show NO ↔ ((ty = 2 → DP) ∧ (ty ≠ 2 → OP)) from ⟨fun h => (HN3.out.1 h).2, fun h => HN3.out.2 ⟨HIDS.out, h⟩⟩)
            clear HN3 HIDS
            by_cases ht : ty = 2
            · have HN5 := Lib.hid (show NO ↔ DP from ⟨fun h => (HN4.out.1 h).1 ht, fun h => HN4.out.2 ⟨fun _ => h, fun h2 => absurd ht h2⟩⟩)
              have ht1 : (ty == 2) = true := by simpa using ht
              have ht2 : (ty != 2) = false := by simpa using ht
              clear HN4 ht
              go_wp2_with fail
              refine (KD.out _ HBV.out).mono ?_
              rintro e w9 ⟨b, rfl, hd, hb9⟩
              replace a0 := (hb9.cell (p := ⟨w5.heap.size, 0, none⟩) (Nat.lt_of_lt_of_le hlA7 HbV.out.size)).trans a0
              have HB9 := Lib.hid (HBV.out.trans (hb9.mono HBV.out.size))
              have HF9 := Lib.hid (show Below w.heap.size w w9 from below_then HF.out HB9.out)
              clear hb9
              cases b
              case false =>
                have HQ := Lib.hid (show ¬ D from fun h => by have := hd.2 (HN5.out.1 (HIF.out h)); cases this)
                clear hd
                go_wp2
                go_ret
                exact TellsP.no HQ.out HF9.out
              have HN := Lib.hid (HNX.out (HN5.out.2 (hd.1 rfl)))
              clear hd
              go_wp2
              go_roundw
              case rel => first
                | exact ⟨m + 1, by omega, by first | rfl | go_num, HN.out, HB9.out⟩
                | (repeat apply Exists.intro
                   refine ⟨?_, rfl⟩
                   exact ⟨m + 1, by omega, by first | rfl | go_num, HN.out, HB9.out⟩)
              case measure => simp [intOf]; omega
            · have HN5 := Lib.hid (show NO ↔ OP from ⟨fun h => (HN4.out.1 h).2 ht, fun h => HN4.out.2 ⟨fun h2 => absurd h2 ht, fun _ => h⟩⟩)
              have ht1 : (ty == 2) = false := by simpa using ht
              have ht2 : (ty != 2) = true := by simpa using ht
              clear HN4 ht
              go_wp2_with fail
              refine (KO.out _ HBV.out).mono ?_
              rintro e w9 ⟨b, rfl, hd, hb9⟩
              replace a0 := (hb9.cell (p := ⟨w5.heap.size, 0, none⟩) (Nat.lt_of_lt_of_le hlA7 HbV.out.size)).trans a0
              have HB9 := Lib.hid (HBV.out.trans (hb9.mono HBV.out.size))
              have HF9 := Lib.hid (show Below w.heap.size w w9 from below_then HF.out HB9.out)
              clear hb9
              cases b
              case false =>
                have HQ := Lib.hid (show ¬ D from fun h => by have := hd.2 (HN5.out.1 (HIF.out h)); cases this)
                clear hd
                go_wp2
                go_ret
                exact TellsP.no HQ.out HF9.out
              have HN := Lib.hid (HNX.out (HN5.out.2 (hd.1 rfl)))
              clear hd
              go_wp2
              go_roundw
              case rel => first
                | exact ⟨m + 1, by omega, by first | rfl | go_num, HN.out, HB9.out⟩
                | (repeat apply Exists.intro
                   refine ⟨?_, rfl⟩
                   exact ⟨m + 1, by omega, by first | rfl | go_num, HN.out, HB9.out⟩)
              case measure => simp [intOf]; omega
    · obtain rfl : k = t.ns.length := by omega
      have hlm : ¬ (t.ns.length : Int) < (t.ns.length : Int) := by omega
      have HY := Lib.hid (show D from HDN.out.2 fun j hj => hok j hj (by have := HLP.out; omega))
      have HFr := Lib.hid (show Below w.heap.size w wr from below_then HF.out hb)
      clear hok hb
      go_wp2
      go_ret
      exact TellsP.yes HY.out HFr.out
end Go.Proofs.YtgifmpobokaejaaGreatDoor
