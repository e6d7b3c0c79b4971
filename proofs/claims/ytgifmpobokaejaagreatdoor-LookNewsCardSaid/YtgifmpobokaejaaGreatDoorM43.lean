/-
  Layer 22, walks: how the document looks whether a tree may be, exact (written by wip/tools/genlookoke.py). Conditions: a tree that is not too large.
-/
import Derived.Test.YtgifmpobokaejaaGreatDoorM40
import Derived.Test.YtgifmpobokaejaaGreatDoorM41
import Derived.Test.YtgifmpobokaejaaGreatDoorM42
import Derived.Test.YtgifmpobokaejaaGreatDoorM39
namespace Go.Proofs.YtgifmpobokaejaaGreatDoor
open Go.RowKit
open Go.RowKit
attribute [local go_sem ↓] Go.wp_at_zero Go.wp_at_succ
attribute [local go_sem] rowAt_ptr rowOf_drew rowOf_drewN rowOf_alloc_past rowOf_new
attribute [local go_sem ↓] ldNode22 ldTree22 ldAttrR ldEntry ldLim22

theorem getD_nd {ns : List Nd} {k : Nat} (h : k < ns.length) : ns.getD k ndZ = ns[k] := by
  simp [List.getD, List.getElem?_eq_getElem h]
set_option maxRecDepth 20000 in
set_option maxHeartbeats 6400000 in
theorem refCheck22_iff (t : Tr) (ps : List (Nd × List Entry)) (w : World) (hT : TreeH w t ps) :
    Calls Tryz.prog 9 #[t.val] w (TellsP (TreeOk (comesD t.ns) t ps) w) := by
  have bT := Blk.new w 26 t.vals
  have hB : Below w.heap.size w (w.alloc (.cells t.vals.toArray 26)) := (Below.refl _ _).alloc (Nat.le_refl _) _
  obtain ⟨w1, hw1⟩ : ∃ V, V = w.alloc (.cells t.vals.toArray 26) := ⟨_, rfl⟩
  rw [← hw1] at bT hB
  have c5 : w1.cell? ⟨w.heap.size, 5, none⟩ = some (.slice t.na t.ns.length t.nc) := bT.cell 5
  have c2 : w1.cell? ⟨w.heap.size, 2, none⟩ = some (.int .i64 t.lim.nodes) := bT.cell 2
  have c3 : w1.cell? ⟨w.heap.size, 3, none⟩ = some (.int .i64 t.now) := bT.cell 3
  have c4 : w1.cell? ⟨w.heap.size, 4, none⟩ = some (.int .i64 t.gens) := bT.cell 4
  have rL : rowOf w1 w.heap.size 0 3 = some t.lim.vals.toArray := bT.row 0 3 (by rw [Tr.len]; omega)
  have rT : rowOf w1 w.heap.size 0 6 = some t.vals.toArray := bT.row 0 6 (by rw [Tr.len]; omega)
  have hlT := bT.lt
  have HW1 := Lib.hid hw1
  have HT := Lib.hid (hT.below hB)
  have KL := Lib.hid (fun W => refCheck_any t.lim W)
  have HB := Lib.hid hB
  have hlen := hT.few.1
  have hlp : t.ns.length = ps.length := by rw [hT.ns, List.length_map]
  have HD := Lib.hid (show TreeOk (comesD t.ns) t ps ↔ (t.lim.ok = true ∧ 1 ≤ t.ns.length ∧ (t.ns.length : Int) ≤ t.lim.nodes ∧ ∀ (j : Nat) (hj : j < ps.length), NodOk (comesD t.ns) t ps j ps[j].1 ps[j].2) from Iff.rfl)
  generalize TreeOk (comesD t.ns) t ps = D at *
  have HLP := Lib.hid hlp
  clear hw1 bT hT hB hlp
  unfold Tr.val
  go_enter Tryz.func9, Tryz.ntmps9
  go_upto_region 1 with fail
  change Code.wp _ _ _ _ (w.alloc (.cells t.vals.toArray 26))
  rw [← HW1.out]
  go_wp2_with fail
  refine (KL.out _).mono ?_
  rintro e w2 ⟨rfl, hb⟩
  replace c2 := (hb.cell (p := ⟨w.heap.size, 2, none⟩) hlT).trans c2
  replace c3 := (hb.cell (p := ⟨w.heap.size, 3, none⟩) hlT).trans c3
  replace c4 := (hb.cell (p := ⟨w.heap.size, 4, none⟩) hlT).trans c4
  replace c5 := (hb.cell (p := ⟨w.heap.size, 5, none⟩) hlT).trans c5
  replace rT := (rowOf_below hb hlT 0 6).trans rT
  have hlT2 := Nat.lt_of_lt_of_le hlT hb.size
  have HF := Lib.hid (show Below w.heap.size w w2 from below_then HB.out hb)
  have HT2 := Lib.hid (HT.out.below hb)
  clear hb rL hlT HT HB HW1 KL
  cases hlo : t.lim.ok
  case false =>
    have HQ := Lib.hid (show ¬ D from fun h => by have := (HD.out.1 h).1; rw [hlo] at this; cases this)
    clear hlo
    go_wp2
    go_ret
    exact TellsP.no HQ.out HF.out
  have HLO := Lib.hid hlo
  clear hlo
  by_cases q1 : 1 ≤ t.ns.length
  case neg =>
    have q1b : (t.ns.length : Int) < 1 := by omega
    have HQ := Lib.hid (show ¬ D from fun h => q1 (HD.out.1 h).2.1)
    clear q1
    go_wp2
    go_ret
    exact TellsP.no HQ.out HF.out
  have q1b : ¬ (t.ns.length : Int) < 1 := by omega
  by_cases q2 : (t.ns.length : Int) ≤ t.lim.nodes
  case neg =>
    have q2b : t.lim.nodes < (t.ns.length : Int) := by omega
    have HQ := Lib.hid (show ¬ D from fun h => q2 (HD.out.1 h).2.2.1)
    clear q1 q2
    go_wp2
    go_ret
    exact TellsP.no HQ.out HF.out
  have q2b : ¬ t.lim.nodes < (t.ns.length : Int) := by omega
  have HDN := Lib.hid (show D ↔ ∀ (j : Nat) (hj : j < ps.length), NodOk (comesD t.ns) t ps j ps[j].1 ps[j].2 from ⟨fun h => (HD.out.1 h).2.2.2, fun h => HD.out.2 ⟨HLO.out, q1, q2, h⟩⟩)
  have HTr := Lib.hid (And.intro c3 (And.intro c4 (And.intro c5 rT)))
  clear HD HLO
  go_wp2
  clear c2 c3 c4 c5 rT q1 q2 q1b q2b
  go_loopw [3] (fun i wr => ∃ k : Nat, k ≤ t.ns.length ∧ i = .int .i64 k ∧ NodsK (comesD t.ns) t ps k ∧ Below w2.heap.size w2 wr) (fun i _ => t.ns.length - (intOf i).toNat)
  case atStart => exact ⟨0, Nat.zero_le _, rfl, NodsK.zero, Below.refl _ _⟩
  case round =>
    obtain ⟨k, hk, rfl, hok, hb⟩ := hrel
    obtain ⟨c3, c4, c5, rT⟩ := HTr.out
    replace c3 := (hb.cell (p := ⟨w.heap.size, 3, none⟩) hlT2).trans c3
    replace c4 := (hb.cell (p := ⟨w.heap.size, 4, none⟩) hlT2).trans c4
    replace c5 := (hb.cell (p := ⟨w.heap.size, 5, none⟩) hlT2).trans c5
    replace rT := (rowOf_below hb hlT2 0 6).trans rT
    have hlT3 := Nat.lt_of_lt_of_le hlT2 hb.size
    have hk0 : (0 : Int) ≤ (k : Int) := Int.natCast_nonneg _
    by_cases hlt : k < t.ns.length
    · have hk1 : (k : Int) < (t.ns.length : Int) := by omega
      have hiw : IntKind.i64.wrap ((k : Int) + 1) = ((k + 1 : Nat) : Int) := by rw [IntWalk.i64_in _ (by omega)]; omega
      have hns := HT2.out.ns
      have hkp : k < ps.length := by rw [hns, List.length_map] at hlt; exact hlt
      obtain ⟨p, hp⟩ : ∃ p, p = ps[k] := ⟨_, rfl⟩
      have hpm : p ∈ ps := hp ▸ List.getElem_mem hkp
      have hnk : t.ns[k] = p.1 := by rw [hp]; simp only [hns, List.getElem_map]
      have HNX := Lib.hid (fun (h : NodOk (comesD t.ns) t ps k p.1 p.2) => (show NodsK (comesD t.ns) t ps (k + 1) from hok.next hkp (hp ▸ h)))
      have HIF := Lib.hid (fun (h : D) => (show NodOk (comesD t.ns) t ps k p.1 p.2 from hp ▸ HDN.out.1 h k hkp))
      obtain ⟨nd, es⟩ := p
      simp only at hnk
      obtain ⟨b1, o1, hna, hb1, rn, -⟩ := rowCell8 Nd.len (by decide) ((HT2.out.below hb).at_) hlt
      rw [hnk] at rn
      rw [hna] at c5
      have hen := (HT2.out.ents _ hpm).1
      have hE := (HT2.out.ents _ hpm).2
      have hrw := HT2.out.rows _ hpm
      have hdl : (dataL nd).length ≤ 1048576 := by
        have h1 : nd ∈ t.ns := by rw [hns]; exact List.mem_map_of_mem hpm
        have := HT2.out.few.2 _ h1
        rw [dataL_len]
        omega
      simp only at hen hE hrw
      have KC := Lib.hid (fun W => refCheck5_any nd.attr W)
      have KD := Lib.hid (fun W (h : Below w2.heap.size w2 W) => refDirectory_iff t ps nd es W (HT2.out.below h) hen hrw.1 hrw.2 hdl (hE.below h))
      have KO := Lib.hid (fun W (h : Below w2.heap.size w2 W) => refOther_iff t ps nd es W (HT2.out.below h) hen hdl)
      have HAt := Lib.hid (fun W (h : Below w2.heap.size w2 W) (j : Nat) (hj : j < t.ns.length) => (show (∀ q u, ((t.ns.getD j ndZ).vals)[q]? = some u → W.cell? ⟨b1, o1 + j * 15 + q, none⟩ = some u) by
        rw [getD_nd hj]
        obtain ⟨b2, o2, hna2, -, -, cc⟩ := rowCell8 Nd.len (by decide) ((HT2.out.below h).at_) hj
        rw [hna] at hna2
        injection hna2 with h1
        injection h1 with h2 h3 h4
        subst h2 h3
        exact cc))
      have HBr := Lib.hid hb
      have HND := Lib.hid (show NodOk (comesD t.ns) t ps k nd es ↔ (nd.attr.ok = true ∧ 1 ≤ nd.attr.id ∧ 1 ≤ nd.attr.gen ∧ nd.attr.gen ≤ t.gens ∧ nd.attr.change ≤ t.now ∧ nd.attr.size = (nd.data.size : Int) ∧ (k = 0 → nd.attr.gen = 1 ∧ nd.attr.type = 2) ∧
        (0 < k → (t.ns.getD (k - 1) ndZ).attr.gen < nd.attr.gen) ∧ (∀ j, j < k → (t.ns.getD j ndZ).attr.id ≠ nd.attr.id) ∧ (nd.attr.type = 2 → DirOk (comesD t.ns) ps t.ns nd es) ∧ (nd.attr.type ≠ 2 → OthOk ps nd es)) from Iff.rfl)
      have bN := Blk.new wr 65 nd.vals
      have hbN : Below wr.heap.size wr (wr.alloc (.cells nd.vals.toArray 65)) := (Below.refl _ _).alloc (Nat.le_refl _) _
      clear hok hb hp hpm hnk hna hen hE hrw hdl hns hkp
      unfold Tr.val at KD KO
      simp only at HNX HIF
      generalize NodOk (comesD t.ns) t ps k nd es = NO at *
      generalize DirOk (comesD t.ns) ps t.ns nd es = DP at *
      generalize OthOk ps nd es = OP at *
      go_upto_region 7 with (first | (refine wpList_new_struct (by rfl) (by rfl) 65 (by rfl) _ _ (by rfl) nd.vals infoNode (by rfl) (by rfl) (Nd.one _) (by rfl) (by rfl) ?_) | fail)
      generalize wr.alloc (.cells nd.vals.toArray 65) = w5 at *
      have rA : rowOf w5 wr.heap.size 0 10 = some nd.attr.vals.toArray := bN.row 0 10 (by rw [Nd.len]; omega)
      have bA := Blk.new w5 40 nd.attr.vals
      have hbA : Below w5.heap.size w5 (w5.alloc (.cells nd.attr.vals.toArray 40)) := (Below.refl _ _).alloc (Nat.le_refl _) _
      go_upto_region 8 with (first | (refine wpList_new_struct (by rfl) (by rfl) 40 (by rfl) _ _ (by rfl) nd.attr.vals infoAttr22 (by rfl) (by rfl) (Attr.one _) (by rfl) (by rfl) ?_) | fail)
      replace bN := bN.stays hbA
      have hbw6 := below_then hbN hbA
      generalize w5.alloc (.cells nd.attr.vals.toArray 40) = w6 at *
      have rA6 : rowOf w6 w5.heap.size 0 10 = some nd.attr.vals.toArray := bA.row 0 10 (by rw [Attr.len]; omega)
      clear rn rA hbN hbA
      go_wp2_with fail
      refine (KC.out _).mono ?_
      rintro e w7 ⟨rfl, hb⟩
      replace bN := bN.stays hb
      replace bA := bA.stays hb
      have hb7 := below_then hbw6 hb
      replace c3 := (hb7.cell (p := ⟨w.heap.size, 3, none⟩) hlT3).trans c3
      replace c4 := (hb7.cell (p := ⟨w.heap.size, 4, none⟩) hlT3).trans c4
      replace c5 := (hb7.cell (p := ⟨w.heap.size, 5, none⟩) hlT3).trans c5
      replace rT := (rowOf_below hb7 hlT3 0 6).trans rT
      have a0 : w7.cell? ⟨w5.heap.size, 0, none⟩ = some (.int .i64 nd.attr.type) := bA.cell 0
      have a5 : w7.cell? ⟨w5.heap.size, 5, none⟩ = some (.int .i64 nd.attr.size) := bA.cell 5
      have a6 : w7.cell? ⟨w5.heap.size, 6, none⟩ = some (.int .i64 nd.attr.id) := bA.cell 6
      have a7 : w7.cell? ⟨w5.heap.size, 7, none⟩ = some (.int .i64 nd.attr.gen) := bA.cell 7
      have a8 : w7.cell? ⟨w5.heap.size, 8, none⟩ = some (.int .i64 nd.attr.change) := bA.cell 8
      have d10 : w7.cell? ⟨wr.heap.size, 10, none⟩ = some (.string nd.data) := bN.cell 10
      have rN : rowOf w7 wr.heap.size 0 15 = some nd.vals.toArray := bN.row 0 15 (by rw [Nd.len]; omega)
      have hlA7 := bA.lt
      have hlN7 := bN.lt
      have hlT7 := Nat.lt_of_lt_of_le hlT3 hb7.size
      have HB7 := Lib.hid (HBr.out.trans (hb7.mono HBr.out.size))
      have HF7 := Lib.hid (show Below w.heap.size w w7 from below_then HF.out HB7.out)
      clear hb hb7 hbw6 bN bA rA6 KC
      generalize nd.attr.ok = oka at *
      generalize nd.attr.type = ty at *
      generalize nd.attr.gen = gn at *
      generalize nd.attr.id = id at *
      generalize nd.attr.size = sz at *
      generalize nd.attr.change = cg at *
      cases oka
      case false =>
        have HQ := Lib.hid (show ¬ D from fun h => by have := (HND.out.1 (HIF.out h)).1; cases this)
        go_wp2
        go_ret
        exact TellsP.no HQ.out HF7.out
      by_cases q1 : id < 1
      · have HQ := Lib.hid (show ¬ D from fun h => absurd (HND.out.1 (HIF.out h)).2.1 (by omega))
        go_wp2
        go_ret
        exact TellsP.no HQ.out HF7.out
      have q1d : decide (id < 1) = false := decide_eq_false q1
      by_cases q2 : gn < 1
      · have HQ := Lib.hid (show ¬ D from fun h => absurd (HND.out.1 (HIF.out h)).2.2.1 (by omega))
        go_wp2
        go_ret
        exact TellsP.no HQ.out HF7.out
      have q2d : decide (gn < 1) = false := decide_eq_false q2
      by_cases q3 : t.gens < gn
      · have HQ := Lib.hid (show ¬ D from fun h => absurd (HND.out.1 (HIF.out h)).2.2.2.1 (by omega))
        go_wp2
        go_ret
        exact TellsP.no HQ.out HF7.out
      have q3d : decide (t.gens < gn) = false := decide_eq_false q3
      by_cases q4 : t.now < cg
      · have HQ := Lib.hid (show ¬ D from fun h => absurd (HND.out.1 (HIF.out h)).2.2.2.2.1 (by omega))
        go_wp2
        go_ret
        exact TellsP.no HQ.out HF7.out
      have q4d : decide (t.now < cg) = false := decide_eq_false q4
      by_cases q5 : sz = (nd.data.size : Int)
      case neg =>
        have hsz1 : (sz != (nd.data.size : Int)) = true := by simpa using q5
        have HQ := Lib.hid (show ¬ D from fun h => q5 (HND.out.1 (HIF.out h)).2.2.2.2.2.1)
        clear q5
        go_wp2
        go_ret
        exact TellsP.no HQ.out HF7.out
      have hq3 : (sz != (nd.data.size : Int)) = false := by simpa using q5
      have HN2 := Lib.hid (show NO ↔ ((k = 0 → gn = 1 ∧ ty = 2) ∧ (0 < k → (t.ns.getD (k - 1) ndZ).attr.gen < gn) ∧ (∀ j, j < k → (t.ns.getD j ndZ).attr.id ≠ id) ∧ (ty = 2 → DP) ∧ (ty ≠ 2 → OP)) from
        ⟨fun h => (HND.out.1 h).2.2.2.2.2.2, fun h => HND.out.2 ⟨rfl, by omega, by omega, by omega, by omega, q5, h⟩⟩)
      clear HND q5
      go_wp2_with fail
      clear c3 c4 a5 a8 d10 hq3
      have hprev : ∀ (h : 0 < k), w7.cell? ⟨b1, o1 + (k - 1) * 15 + 7, none⟩ = some (.int .i64 (t.ns.getD (k - 1) ndZ).attr.gen) := fun h => HAt.out w7 HB7.out (k - 1) (by omega) 7 _ rfl
      by_cases hz : k = 0
      · have hz0 : ((k : Int) == 0) = true := by simp [hz]
        have hz1 : ¬ (0 : Int) < (k : Int) := by omega
        have hz2 : ¬ 0 < k := by omega
        clear hprev
        by_cases h2 : gn = 1
        case neg =>
          have h2' : (gn != 1) = true := by simpa using h2
          have HQ := Lib.hid (show ¬ D from fun h => h2 ((HN2.out.1 (HIF.out h)).1 hz).1)
          clear hz h2
          go_quiet (fail)
          go_wp2
          go_ret
          exact TellsP.no HQ.out (bdN HF7.out _)
        have h2' : (gn != 1) = false := by simpa using h2
        by_cases h3 : ty = 2
        case neg =>
          have h3' : (ty != 2) = true := by simpa using h3
          have HQ := Lib.hid (show ¬ D from fun h => h3 ((HN2.out.1 (HIF.out h)).1 hz).2)
          clear hz h2 h3
          go_quiet (fail)
          go_wp2
          go_ret
          exact TellsP.no HQ.out (bdN HF7.out _)
        have h3' : (ty != 2) = false := by simpa using h3
        have HN3 := Lib.hid (show NO ↔ ((∀ j, j < k → (t.ns.getD j ndZ).attr.id ≠ id) ∧ (ty = 2 → DP) ∧ (ty ≠ 2 → OP)) from
          ⟨fun h => (HN2.out.1 h).2.2, fun h => HN2.out.2 ⟨fun _ => ⟨h2, h3⟩, fun h0 => absurd h0 hz2, h⟩⟩)
        have H3 := Lib.hid h3
        have HZ2 := Lib.hid hz2
        clear hz h2 h3 HN2
        go_quiet (fail)
        go_wp2
        go_loopw [6] (fun j V => ∃ m : Nat, m ≤ k ∧ j = .int .i64 m ∧ (∀ j, j < m → (t.ns.getD j ndZ).attr.id ≠ id) ∧ Below w7.heap.size w7 V) (fun j _ => k - (intOf j).toNat)
        case atStart => exact ⟨0, Nat.zero_le _, rfl, fun _ h => absurd h (Nat.not_lt_zero _), bdN (Below.refl _ _) _⟩
        case round =>
          rename_i V _
          obtain ⟨m, hm, rfl, hids, hbV⟩ := hrel
          have HBV := Lib.hid (HB7.out.trans (hbV.mono HB7.out.size))
          have HFV := Lib.hid (show Below w.heap.size w _ from below_then HF.out HBV.out)
          have HIDS := Lib.hid hids
          have hm0 : (0 : Int) ≤ (m : Int) := Int.natCast_nonneg _
          replace c5 := (hbV.cell (p := ⟨w.heap.size, 5, none⟩) hlT7).trans c5
          replace rT := (rowOf_below hbV hlT7 0 6).trans rT
          replace a0 := (hbV.cell (p := ⟨w5.heap.size, 0, none⟩) hlA7).trans a0
          replace a6 := (hbV.cell (p := ⟨w5.heap.size, 6, none⟩) hlA7).trans a6
          replace rN := (rowOf_below hbV hlN7 0 15).trans rN
          clear a7 hids
          have HbV := Lib.hid hbV
          clear hbV
          by_cases hmk : m < k
          · exact absurd hmk (by have := HZ2.out; omega)
          · obtain rfl : m = k := by omega
            have hmm : ¬ (m : Int) < (m : Int) := by omega
            have HN4 := Lib.hid (show NO ↔ ((ty = 2 → DP) ∧ (ty ≠ 2 → OP)) from ⟨fun h => (HN3.out.1 h).2, fun h => HN3.out.2 ⟨HIDS.out, h⟩⟩)
            clear HN3 HIDS
            by_cases ht : ty = 2
            · have HN5 := Lib.hid (show NO ↔ DP from ⟨fun h => (HN4.out.1 h).1 ht, fun h => HN4.out.2 ⟨fun _ => h, fun h2 => absurd ht h2⟩⟩)
              have ht1 : (ty == 2) = true := by simpa using ht
              have ht2 : (ty != 2) = false := by simpa using ht
              clear HN4 ht
              go_wp2_with fail
              refine (KD.out _ HBV.out).mono ?_
              rintro e w9 ⟨b, rfl, hd, hb9⟩
              replace a0 := (hb9.cell (p := ⟨w5.heap.size, 0, none⟩) (Nat.lt_of_lt_of_le hlA7 HbV.out.size)).trans a0
              have HB9 := Lib.hid (HBV.out.trans (hb9.mono HBV.out.size))
              have HF9 := Lib.hid (show Below w.heap.size w w9 from below_then HF.out HB9.out)
              clear hb9
              cases b
              case false =>
                have HQ := Lib.hid (show ¬ D from fun h => by have := hd.2 (HN5.out.1 (HIF.out h)); cases this)
                clear hd
                go_wp2
                go_ret
                exact TellsP.no HQ.out HF9.out
              have HN := Lib.hid (HNX.out (HN5.out.2 (hd.1 rfl)))
              clear hd
              go_wp2
              go_roundw
              case rel => first
                | exact ⟨m + 1, by omega, by first | rfl | go_num, HN.out, HB9.out⟩
                | (repeat apply Exists.intro
                   refine ⟨?_, rfl⟩
                   exact ⟨m + 1, by omega, by first | rfl | go_num, HN.out, HB9.out⟩)
              case measure => simp [intOf]; omega
            · exact absurd H3.out ht
      · have hz0 : ((k : Int) == 0) = false := by simp; omega
        have hz1 : (0 : Int) < (k : Int) := by omega
        have hz3 : 0 < k := by omega
        have hwk : IntKind.i64.wrap ((k : Int) - 1) = ((k - 1 : Nat) : Int) := by rw [IntWalk.i64_in _ (by omega)]; omega
        have hp0 : (0 : Int) ≤ ((k - 1 : Nat) : Int) := Int.natCast_nonneg _
        have hp1 : ((k - 1 : Nat) : Int) < (t.ns.length : Int) := by omega
        have hpc := hprev (by omega)
        have HN3 := Lib.hid (show NO ↔ ((t.ns.getD (k - 1) ndZ).attr.gen < gn ∧ (∀ j, j < k → (t.ns.getD j ndZ).attr.id ≠ id) ∧ (ty = 2 → DP) ∧ (ty ≠ 2 → OP)) from
          ⟨fun h => ⟨(HN2.out.1 h).2.1 (by omega), (HN2.out.1 h).2.2⟩, fun h => HN2.out.2 ⟨fun h0 => absurd h0 hz, fun _ => h.1, h.2⟩⟩)
        generalize (t.ns.getD (k - 1) ndZ).attr.gen = pg at *
        clear hprev HN2
        by_cases hpg : pg < gn
        case neg =>
          have hpg1 : gn ≤ pg := by omega
          have HQ := Lib.hid (show ¬ D from fun h => hpg (HN3.out.1 (HIF.out h)).1)
          clear hz
          go_quiet (fail)
          go_wp2
          go_ret
          exact TellsP.no HQ.out (bdN HF7.out _)
        have hpg1 : ¬ gn ≤ pg := by omega
        replace HN3 := Lib.hid (show NO ↔ ((∀ j, j < k → (t.ns.getD j ndZ).attr.id ≠ id) ∧ (ty = 2 → DP) ∧ (ty ≠ 2 → OP)) from ⟨fun h => (HN3.out.1 h).2, fun h => HN3.out.2 ⟨hpg, h⟩⟩)
        go_quiet (fail)
        clear hpc hpg hpg1 hz hz3
        go_wp2
        go_loopw [6] (fun j V => ∃ m : Nat, m ≤ k ∧ j = .int .i64 m ∧ (∀ j, j < m → (t.ns.getD j ndZ).attr.id ≠ id) ∧ Below w7.heap.size w7 V) (fun j _ => k - (intOf j).toNat)
        case atStart => exact ⟨0, Nat.zero_le _, rfl, fun _ h => absurd h (Nat.not_lt_zero _), bdN (Below.refl _ _) _⟩
        case round =>
          rename_i V _
          obtain ⟨m, hm, rfl, hids, hbV⟩ := hrel
          have HBV := Lib.hid (HB7.out.trans (hbV.mono HB7.out.size))
          have HFV := Lib.hid (show Below w.heap.size w _ from below_then HF.out HBV.out)
          have HIDS := Lib.hid hids
          have hm0 : (0 : Int) ≤ (m : Int) := Int.natCast_nonneg _
          replace c5 := (hbV.cell (p := ⟨w.heap.size, 5, none⟩) hlT7).trans c5
          replace rT := (rowOf_below hbV hlT7 0 6).trans rT
          replace a0 := (hbV.cell (p := ⟨w5.heap.size, 0, none⟩) hlA7).trans a0
          replace a6 := (hbV.cell (p := ⟨w5.heap.size, 6, none⟩) hlA7).trans a6
          replace rN := (rowOf_below hbV hlN7 0 15).trans rN
          clear a7 hids
          have HbV := Lib.hid hbV
          clear hbV
          by_cases hmk : m < k
          · have hm1 : (m : Int) < (k : Int) := by omega
            have hm2 : (m : Int) < (t.ns.length : Int) := by omega
            have him : IntKind.i64.wrap ((m : Int) + 1) = ((m + 1 : Nat) : Int) := by rw [IntWalk.i64_in _ (by omega)]; omega
            have hid6 : World.cell? _ _ = some (.int .i64 (t.ns.getD m ndZ).attr.id) := HAt.out _ HBV.out m (by omega) 6 _ rfl
            by_cases hid : (t.ns.getD m ndZ).attr.id = id
            · have HQ := Lib.hid (show ¬ D from fun h => (HN3.out.1 (HIF.out h)).1 m hmk hid)
              rw [hid] at hid6
              clear hid
              go_wp2_with fail
              go_quiet (fail)
              go_wp2
              go_ret
              exact TellsP.no HQ.out (bdN HFV.out _)
            · have hid2 : ((t.ns.getD m ndZ).attr.id == id) = false := by simpa using hid
              have HI2 := Lib.hid (show ∀ j, j < m + 1 → (t.ns.getD j ndZ).attr.id ≠ id from fun j hj => by
                rcases Nat.lt_or_ge j m with h1 | h1
                · exact HIDS.out j h1
                · obtain rfl : j = m := by omega
                  exact hid)
              clear hid
              generalize (t.ns.getD m ndZ).attr.id = im at *
              go_wp2_with fail
              go_quiet (fail)
              go_wp2
              go_roundw
              case rel => exact ⟨m + 1, by omega, by first | rfl | go_num, HI2.out, bdN HbV.out _⟩
              case measure => simp [intOf]; omega
          · obtain rfl : m = k := by omega
            have hmm : ¬ (m : Int) < (m : Int) := by omega
            have HN4 := Lib.hid (show NO ↔ ((ty = 2 → DP) ∧ (ty ≠ 2 → OP)) from ⟨fun h => (HN3.out.1 h).2, fun h => HN3.out.2 ⟨HIDS.out, h⟩⟩)
            clear HN3 HIDS
            by_cases ht : ty = 2
            · have HN5 := Lib.hid (show NO ↔ DP from ⟨fun h => (HN4.out.1 h).1 ht, fun h => HN4.out.2 ⟨fun _ => h, fun h2 => absurd ht h2⟩⟩)
              have ht1 : (ty == 2) = true := by simpa using ht
              have ht2 : (ty != 2) = false := by simpa using ht
              clear HN4 ht
              go_wp2_with fail
              refine (KD.out _ HBV.out).mono ?_
              rintro e w9 ⟨b, rfl, hd, hb9⟩
              replace a0 := (hb9.cell (p := ⟨w5.heap.size, 0, none⟩) (Nat.lt_of_lt_of_le hlA7 HbV.out.size)).trans a0
              have HB9 := Lib.hid (HBV.out.trans (hb9.mono HBV.out.size))
              have HF9 := Lib.hid (show Below w.heap.size w w9 from below_then HF.out HB9.out)
              clear hb9
              cases b
              case false =>
                have HQ := Lib.hid (show ¬ D from fun h => by have := hd.2 (HN5.out.1 (HIF.out h)); cases this)
                clear hd
                go_wp2
                go_ret
                exact TellsP.no HQ.out HF9.out
              have HN := Lib.hid (HNX.out (HN5.out.2 (hd.1 rfl)))
              clear hd
              go_wp2
              go_roundw
              case rel => first
                | exact ⟨m + 1, by omega, by first | rfl | go_num, HN.out, HB9.out⟩
                | (repeat apply Exists.intro
                   refine ⟨?_, rfl⟩
                   exact ⟨m + 1, by omega, by first | rfl | go_num, HN.out, HB9.out⟩)
              case measure => simp [intOf]; omega
            · have HN5 := Lib.hid (show NO ↔ OP from ⟨fun h => (HN4.out.1 h).2 ht, fun h => HN4.out.2 ⟨fun h2 => absurd h2 ht, fun _ => h⟩⟩)
              have ht1 : (ty == 2) = false := by simpa using ht
              have ht2 : (ty != 2) = true := by simpa using ht
              clear HN4 ht
              go_wp2_with fail
              refine (KO.out _ HBV.out).mono ?_
              rintro e w9 ⟨b, rfl, hd, hb9⟩
              replace a0 := (hb9.cell (p := ⟨w5.heap.size, 0, none⟩) (Nat.lt_of_lt_of_le hlA7 HbV.out.size)).trans a0
              have HB9 := Lib.hid (HBV.out.trans (hb9.mono HBV.out.size))
              have HF9 := Lib.hid (show Below w.heap.size w w9 from below_then HF.out HB9.out)
              clear hb9
              cases b
              case false =>
                have HQ := Lib.hid (show ¬ D from fun h => by have := hd.2 (HN5.out.1 (HIF.out h)); cases this)
                clear hd
                go_wp2
                go_ret
                exact TellsP.no HQ.out HF9.out
              have HN := Lib.hid (HNX.out (HN5.out.2 (hd.1 rfl)))
              clear hd
              go_wp2
              go_roundw
              case rel => first
                | exact ⟨m + 1, by omega, by first | rfl | go_num, HN.out, HB9.out⟩
                | (repeat apply Exists.intro
                   refine ⟨?_, rfl⟩
                   exact ⟨m + 1, by omega, by first | rfl | go_num, HN.out, HB9.out⟩)
              case measure => simp [intOf]; omega
    · obtain rfl : k = t.ns.length := by omega
      have hlm : ¬ (t.ns.length : Int) < (t.ns.length : Int) := by omega
      have HY := Lib.hid (show D from HDN.out.2 fun j hj => hok j hj (by have := HLP.out; omega))
      have HFr := Lib.hid (show Below w.heap.size w wr from below_then HF.out hb)
      clear hok hb
      go_wp2
      go_ret
      exact TellsP.yes HY.out HFr.out
end Go.Proofs.YtgifmpobokaejaaGreatDoor

/-
  Layer 22, walks: what must come of the fixed calls. Condition: the library's table and errors are laid.
-/
namespace Go.Proofs.YtgifmpobokaejaaGreatDoor
open Go.RowKit
open Go.RowKit
attribute [local go_sem ↓] Go.wp_at_zero Go.wp_at_succ
attribute [local go_sem] rowAt_ptr rowOf_drew rowOf_drewN rowOf_alloc_past rowOf_new
attribute [local go_sem ↓] ldTree22 ldReply

def credZ22 : Cred := ⟨0, 0, 0, 0⟩
def call1 : Call := { callZ with proc := 1, fh := [49] }
def call3 : Call := { callZ with proc := 3, fh := [49], name := [97] }
theorem at1 {t : Tr} (h : t.ns = [rootN]) : atP t.ns [49] = (0, 0) := by
  rw [h]
  decide +kernel
theorem do1 {t : Tr} (h : t.ns = [rootN]) : (doR t [(rootN, [])] credZ22 call1).1.f.obj = postN rootN ∧ (doR t [(rootN, [])] credZ22 call1).2 = true := by
  have ha : atP t.ns call1.fh = (0, 0) := at1 h
  unfold doR
  rw [if_neg (by decide), if_neg (by decide), ha, if_neg (by decide)]
  exact ⟨rfl, rfl⟩
theorem look3 : (lookupR [rootN] credZ22 call3 rootN []).status = 2 := by decide +kernel
theorem do3 {t : Tr} (h : t.ns = [rootN]) : (doR t [(rootN, [])] credZ22 call3).1.f.status = 2 ∧ (doR t [(rootN, [])] credZ22 call3).1.f.dir.is = true ∧ (doR t [(rootN, [])] credZ22 call3).2 = true := by
  have ha : atP t.ns call3.fh = (0, 0) := at1 h
  unfold doR
  rw [if_neg (by decide), if_neg (by decide), ha, if_neg (by decide)]
  have e : (askR t credZ22 call3 rootN []).f.status = 2 := by
    unfold askR
    rw [if_pos (show call3.proc = 3 from rfl), h]
    exact look3
  exact ⟨e, rfl, rfl⟩
theorem good1 : call1.good := by
  unfold Call.good
  refine ⟨by decide, by decide, by decide, by decide, by decide, by decide, by decide, by decide, by decide, ?_, ?_, by decide, by decide, by decide⟩
  · unfold Sett.good Opt.good
    decide
  · unfold Opt.good
    decide
theorem good3 : call3.good := by
  unfold Call.good
  refine ⟨by decide, by decide, by decide, by decide, by decide, by decide, by decide, by decide, by decide, ?_, ?_, by decide, by decide, by decide⟩
  · unfold Sett.good Opt.good
    decide
  · unfold Opt.good
    decide
def cArr : Array Value := #[.int .i64 0, .int .i64 0, .int .i64 0, .int .i64 0]
set_option maxRecDepth 20000 in
set_option maxHeartbeats 3200000 in
theorem known22_any (w : World) (hL : LookLaid w) : Calls Tryz.prog 10 #[] w fun e w' => e = .returned (.bool true) ∧ Below w.heap.size w w' := by
  have KN := Lib.hid (fun W => (show Calls Tryz.prog 19 #[.agg #[.int .i64 10, .int .i64 10, .int .i64 4]] W (NewP ⟨10, 10, 4⟩ W) from lookNew_any ⟨10, 10, 4⟩ W (by decide)))
  go_enter Tryz.func10, Tryz.ntmps10
  go_wp2_with fail
  refine (KN.out _).mono ?_
  rintro e w1 ⟨t, rfl, hl, -, -, hT, -, hb1⟩
  have hns : t.ns = [rootN] := hT.ns
  have hlim : t.lim.ok = true := by rw [hl]; decide
  have HD1 := Lib.hid (do1 hns)
  have HD3 := Lib.hid (do3 hns)
  have hL1 := hL.below hb1
  have K1 := Lib.hid (fun W hT hL => (show Calls Tryz.prog 11 #[.agg t.vals.toArray, .agg #[.int .i64 0, .int .i64 0, .int .i64 0, .int .i64 0], .agg #[.int .i64 1, .string ⟨#[49]⟩, .string ⟨#[]⟩, .string ⟨#[]⟩, .string ⟨#[]⟩, .int .i64 0, .int .i64 0, .int .i64 0, .string ⟨#[]⟩, .bool false, .int .i64 0, .bool false, .int .i64 0, .bool false, .int .i64 0, .bool false, .int .i64 0, .bool false, .int .i64 0, .bool false, .int .i64 0, .int .i64 0, .int .i64 0, .string ⟨#[]⟩]] W (DoP (doR t [(rootN, [])] credZ22 call1) W) from lookDo_any t [(rootN, [])] credZ22 call1 W hT hlim good1 (by decide) hL))
  have K3 := Lib.hid (fun W hT hL => (show Calls Tryz.prog 11 #[.agg t.vals.toArray, .agg #[.int .i64 0, .int .i64 0, .int .i64 0, .int .i64 0], .agg #[.int .i64 3, .string ⟨#[49]⟩, .string ⟨#[97]⟩, .string ⟨#[]⟩, .string ⟨#[]⟩, .int .i64 0, .int .i64 0, .int .i64 0, .string ⟨#[]⟩, .bool false, .int .i64 0, .bool false, .int .i64 0, .bool false, .int .i64 0, .bool false, .int .i64 0, .bool false, .int .i64 0, .bool false, .int .i64 0, .int .i64 0, .int .i64 0, .string ⟨#[]⟩]] W (DoP (doR t [(rootN, [])] credZ22 call3) W) from lookDo_any t [(rootN, [])] credZ22 call3 W hT hlim good3 (by decide) hL))
  generalize doR t [(rootN, [])] credZ22 call1 = D1 at *
  generalize doR t [(rootN, [])] credZ22 call3 = D3 at *
  go_upto_region 2 with (first | (refine wpList_new_struct (by rfl) (by rfl) 26 (by rfl) _ _ (by rfl) t.vals infoTree22 (by rfl) (by rfl) (Tr.one22 _) (by rfl) (by rfl) ?_) | fail)
  have bT := Blk.new w1 26 t.vals
  have hb2 : Below w1.heap.size w1 (w1.alloc (.cells t.vals.toArray 26)) := (Below.refl _ _).alloc (Nat.le_refl _) _
  generalize w1.alloc (.cells t.vals.toArray 26) = w2 at *
  have rT : rowOf w2 w1.heap.size 0 6 = some t.vals.toArray := bT.row 0 6 (by rw [Tr.len]; omega)
  have hlT := bT.lt
  have hB2 := below_then hb1 hb2
  have KK1 := Lib.hid (K1.out w2 (hT.below hb2) (hL1.below hb2))
  have HT2 := Lib.hid (And.intro (hT.below hb2) (hL1.below hb2))
  clear hT hL hL1 hb1 hb2 hl hns hlim bT KN
  go_wp2_with fail
  refine KK1.out.mono ?_
  rintro e w3 ⟨z, rfl, hf, -, -, hb3⟩
  replace rT := (rowOf_below hb3 hlT 0 6).trans rT
  have hB3 := below_then hB2 hb3
  have hlT3 := Nat.lt_of_lt_of_le hlT hb3.size
  have hmode : z.obj = postN rootN := by rw [← HD1.out.1, ← hf]; rfl
  have his : D1.2 = true := HD1.out.2
  rw [his]
  go_upto_region 3 with (first | (refine wpList_new_struct (by rfl) (by rfl) 48 (by rfl) _ _ (by rfl) z.vals infoReply (by rfl) (by rfl) (Reply.one _) (by rfl) (by rfl) ?_) | fail)
  have bZ := Blk.new w3 48 z.vals
  have hb4 : Below w3.heap.size w3 (w3.alloc (.cells z.vals.toArray 48)) := (Below.refl _ _).alloc (Nat.le_refl _) _
  generalize w3.alloc (.cells z.vals.toArray 48) = w4 at *
  have hm : w4.cell? ⟨w3.heap.size, 4, none⟩ = some (.int .i64 511) := by
    have := bZ.cell 4
    rw [this]
    show some (Value.int .i64 z.obj.attr.mode) = _
    rw [hmode]
    rfl
  replace rT := (rowOf_below hb4 hlT3 0 6).trans rT
  have hlZ := bZ.lt
  have hB4 := below_then hB3 hb4
  have hb24 := below_then hb3 hb4
  have KK3 := Lib.hid (K3.out w4 (HT2.out.1.below hb24) (HT2.out.2.below hb24))
  clear K1 K3 KK1 hf hmode his hb3 hb4 bZ hB2 hB3 hb24 HD1 HT2
  go_wp2_with fail
  refine KK3.out.mono ?_
  rintro e w5 ⟨s, rfl, hf, -, -, hb5⟩
  replace hm := (hb5.cell (p := ⟨w3.heap.size, 4, none⟩) hlZ).trans hm
  have hlZ5 := Nat.lt_of_lt_of_le hlZ hb5.size
  have hB5 := below_then hB4 hb5
  have hst : s.status = 2 := by
    rw [← HD3.out.1, ← hf]
    rfl
  have hdi : s.dir.is = true := by
    rw [← HD3.out.2.1, ← hf]
    rfl
  have his : D3.2 = true := HD3.out.2.2
  rw [his]
  go_upto_region 4 with (first | (refine wpList_new_struct (by rfl) (by rfl) 48 (by rfl) _ _ (by rfl) s.vals infoReply (by rfl) (by rfl) (Reply.one _) (by rfl) (by rfl) ?_) | fail)
  have bS := Blk.new w5 48 s.vals
  have hb6 : Below w5.heap.size w5 (w5.alloc (.cells s.vals.toArray 48)) := (Below.refl _ _).alloc (Nat.le_refl _) _
  generalize w5.alloc (.cells s.vals.toArray 48) = w6 at *
  replace hm := (hb6.cell (p := ⟨w3.heap.size, 4, none⟩) hlZ5).trans hm
  have h0 : w6.cell? ⟨w5.heap.size, 0, none⟩ = some (.int .i64 2) := by
    rw [bS.cell 0]
    show some (Value.int .i64 s.status) = _
    rw [hst]
  have h13 : w6.cell? ⟨w5.heap.size, 13, none⟩ = some (.bool true) := by
    rw [bS.cell 13]
    show some (Value.bool s.dir.is) = _
    rw [hdi]
  have HB6 := Lib.hid (below_then hB5 hb6)
  clear hf hst hdi his hb5 hb6 bS hB4 hB5 HD3 rT KK3
  go_wp2
  go_ret
  exact ⟨rfl, HB6.out⟩
end Go.Proofs.YtgifmpobokaejaaGreatDoor


/-
  Layer 22, walks: no tree of limits that may not be; the document's tree with the root alone. No condition.
-/
namespace Go.Proofs.YtgifmpobokaejaaGreatDoor
open Go.RowKit
open Go.RowKit
attribute [local go_sem ↓] Go.wp_at_zero Go.wp_at_succ
attribute [local go_sem] rowAt_ptr rowOf_drew rowOf_drewN rowOf_alloc_past rowOf_new
attribute [local go_sem ↓] ldNode22 ldTree22 ldAttrR ldLimN

set_option maxRecDepth 20000 in
set_option maxHeartbeats 1600000 in
theorem lookNewNo_any (l : Lim) (w : World) (hok : l.ok = false) : Calls Tryz.prog 19 #[.agg l.vals.toArray] w fun e w' => e = .returned (.tuple #[.agg trZ.vals.toArray, .int .i64 3]) ∧ Below w.heap.size w w' := by
  obtain ⟨bL, bR, hB, hs⟩ := chain2_blks w l.vals trZ.vals 23 26
  obtain ⟨w1, hw1⟩ : ∃ V, V = (w.alloc (.cells l.vals.toArray 23)).alloc (.cells trZ.vals.toArray 26) := ⟨_, rfl⟩
  rw [← hw1] at bL bR hB hs
  have rL : rowOf w1 w.heap.size 0 3 = some l.vals.toArray := bL.row 0 3 (by show _ ≤ 3; omega)
  have HW1 := Lib.hid hw1
  have KC := Lib.hid (fun W => (show Calls Tryz.prog 57 #[.agg l.vals.toArray] W fun e w' => e = .returned (.int .i64 3) ∧ Below W.heap.size W w' by
    have := check_any l W
    rw [hok] at this
    exact this))
  clear hw1 bL hs hok
  go_enter Tryz.func19, Tryz.ntmps19
  go_upto_region 1 with fail
  change Code.wp _ _ _ _ ((w.alloc (.cells l.vals.toArray 23)).alloc (.cells trZ.vals.toArray 26))
  rw [← HW1.out]
  go_wp2_with fail
  refine (KC.out _).mono ?_
  rintro e w2 ⟨rfl, hb⟩
  replace bR := bR.stays hb
  obtain ⟨t, ht⟩ : ∃ t : Tr, t = trZ := ⟨_, rfl⟩
  have HT := Lib.hid ht
  have HR := Lib.hid (And.intro (bR.whole (cs := t.vals) (by rfl)) (Below.setWhole (b := w.heap.size + 1) (below_then hB hb) (by omega) t.vals))
  clear hb hB ht
  go_wp2_with (first | (refine wpList_store_whole (by rfl) 26 _ _ (by rfl) (w.heap.size + 1) t.vals _ bR (by rfl) (by rfl) (by rw [HT.out]; rfl) (by kernel_rfl) (Tr.one22 _) ?_) | fail)
  refine ret_cells2 (w.heap.size + 1) 0 t.vals (.int .i64 3) Tryz.results19 Tryz.underlying26 rfl (by kernel_rfl) rfl rfl HR.out.1.range rfl ?_
  exact ⟨by rw [HT.out], HR.out.2⟩
/-- what the document's New gives -/
def NewR (l : Lim) (w : World) (e : Ending) (w' : World) : Prop :=
  ∃ t : Tr, e = .returned (.agg t.vals.toArray) ∧ t.lim = l ∧ t.now = 0 ∧ t.gens = 1 ∧ TreeH w' t [(rootN, [])] ∧ Below w.heap.size w w'
set_option maxRecDepth 20000 in
set_option maxHeartbeats 3200000 in
theorem refNew22_any (l : Lim) (w : World) : Calls Tryz.prog 22 #[.agg l.vals.toArray] w (NewR l w) := by
  obtain ⟨i0, hi, hz, hsize⟩ : ∃ i0, Tryz.prog.info? 65 = some i0 ∧ i0.zero = some (.agg ndZ.vals.toArray) ∧ i0.size = 15 := by
    have h : (Tryz.prog.info? 65).map (fun i => (i.zero, i.size)) = some (some (.agg ndZ.vals.toArray), 15) := by kernel_rfl
    cases hi : Tryz.prog.info? 65 with
    | none => rw [hi] at h; cases h
    | some i =>
      rw [hi] at h
      simp only [Option.map_some, Option.some.injEq, Prod.mk.injEq] at h
      exact ⟨i, rfl, h.1, h.2⟩
  obtain ⟨bL, bR, hB, hs⟩ := chain2_blks w l.vals trZ.vals 23 26
  obtain ⟨w1, hw1⟩ : ∃ V, V = (w.alloc (.cells l.vals.toArray 23)).alloc (.cells trZ.vals.toArray 26) := ⟨_, rfl⟩
  rw [← hw1] at bL bR hB hs
  obtain ⟨sp, qu, no⟩ := l
  have rL : rowOf w1 w.heap.size 0 3 = some #[.int .i64 sp, .int .i64 qu, .int .i64 no] := bL.row 0 3 (by show _ ≤ 3; omega)
  have hlL := bL.lt
  have hlR := bR.lt
  have HW1 := Lib.hid hw1
  have HI := Lib.hid (And.intro hi (And.intro hz hsize))
  clear hw1 bL hs hi hz hsize
  go_enter Tryz.func22, Tryz.ntmps22
  go_upto_region 1 with fail
  change Code.wp _ _ _ _ ((w.alloc (.cells (Lim.mk sp qu no).vals.toArray 23)).alloc (.cells trZ.vals.toArray 26))
  rw [← HW1.out]
  have bN := Blk.new w1 65 rootN.vals
  have hbN : Below w1.heap.size w1 (w1.alloc (.cells rootN.vals.toArray 65)) := (Below.refl _ _).alloc (Nat.le_refl _) _
  go_upto_region 2 with (first | (refine wpList_new_struct (by rfl) (by rfl) 65 (by rfl) _ _ (by rfl) rootN.vals infoNode (by rfl) (by rfl) (Nd.one _) (by rfl) (by rfl) ?_) | fail)
  generalize w1.alloc (.cells rootN.vals.toArray 65) = w3 at *
  have rN : rowOf w3 w1.heap.size 0 15 = some rootN.vals.toArray := bN.row 0 15 (by rw [Nd.len]; omega)
  replace rL := (rowOf_below hbN hlL 0 3).trans rL
  replace bR := bR.stays hbN
  replace hB := below_then hB hbN
  clear hbN bN
  have hAt : At (w3.alloc (.cells rootN.vals.toArray 65)) 15 (some ⟨w3.heap.size, 0, none⟩) [rootN.vals] := by
    have := At.fresh w3 65 15 w3.heap.size [rootN.vals] (by intro r hr; simp only [List.mem_singleton] at hr; subst hr; rfl) rfl
    simpa using this
  have hbA : Below w3.heap.size w3 (w3.alloc (.cells rootN.vals.toArray 65)) := (Below.refl _ _).alloc (Nat.le_refl _) _
  have hlR3 := bR.lt
  obtain ⟨w4, hw4⟩ : ∃ V, V = w3.alloc (.cells rootN.vals.toArray 65) := ⟨_, rfl⟩
  rw [← hw4] at hAt hbA
  have bR4 := bR.stays hbA
  have hB4 := below_then hB hbA
  obtain ⟨t, ht⟩ : ∃ t : Tr, t = ⟨⟨sp, qu, no⟩, 0, 1, some ⟨w3.heap.size, 0, none⟩, 1, [rootN]⟩ := ⟨_, rfl⟩
  have HW4 := Lib.hid hw4
  have HTt := Lib.hid ht
  have HR := Lib.hid (And.intro (bR4.whole (cs := t.vals) (by rfl)) (Below.setWhole (b := w.heap.size + 1) hB4 (by omega) t.vals))
  have HA := Lib.hid (hAt.farCells (g := w.heap.size + 1) (fun p h => by injection h with h; subst h; exact hlR3) 0 t.vals)
  clear hw4 ht hAt hbA hB4
  rw [HW4.out] at bR4
  go_wp2_with (first
    | (refine wpList_buildSlice_one (by rfl) 24 65 (.tmp 7) (by rfl) rootN.vals (by rfl) Tryz.underlying24 i0 _ HI.out.1 HI.out.2.1 rfl HI.out.2.2 (by rw [Nd.len]; omega) (by rw [Nd.len]; omega) ?_)
    | (refine wpList_store_whole (by rfl) 26 _ _ (by rfl) (w.heap.size + 1) t.vals _ bR4 (by rfl) (by rfl) (by rw [HTt.out]; rfl) (by kernel_rfl) (Tr.one22 _) ?_; rw [← HW4.out])
    | fail)
  refine ret_cells (w.heap.size + 1) 0 t.vals Tryz.results22 Tryz.underlying26 rfl (by kernel_rfl) rfl HR.out.1.range rfl ?_
  refine ⟨t, rfl, by rw [HTt.out], by rw [HTt.out], by rw [HTt.out], ⟨by rw [HTt.out]; rfl, ?_, ?_, ?_, ?_, ?_⟩, HR.out.2⟩
  · have := HA.out
    rw [HTt.out] at this ⊢
    exact this
  · intro p hp
    simp only [List.mem_singleton] at hp
    subst hp
    exact ⟨rfl, At.nil⟩
  · rw [HTt.out]
    refine ⟨by simp, fun n hn => ?_⟩
    simp only [List.mem_singleton] at hn
    subst hn
    decide
  · intro p hp
    simp only [List.mem_singleton] at hp
    subst hp
    exact ⟨Nat.zero_le _, fun x hx => by cases hx⟩
  · intro m hm
    rw [HTt.out] at hm
    simp only [List.mem_singleton] at hm
    subst hm
    decide
end Go.Proofs.YtgifmpobokaejaaGreatDoor
