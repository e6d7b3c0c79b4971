/-
  Layer 22, walks: how the program looks whether a tree may be, exact. Conditions: a tree that is not too large, of machine numbers.
-/
import Derived.Test.YtgifmpobokaejaaGreatDoorM50
import Derived.Test.YtgifmpobokaejaaGreatDoorM40
import Derived.Test.YtgifmpobokaejaaGreatDoorM41
import Derived.Test.YtgifmpobokaejaaGreatDoorM08
import Derived.Test.YtgifmpobokaejaaGreatDoorM13
import Derived.Test.YtgifmpobokaejaaGreatDoorM37
import Derived.Test.YtgifmpobokaejaaGreatDoorM19
import Derived.Test.YtgifmpobokaejaaGreatDoorM06
namespace Go.Proofs.YtgifmpobokaejaaGreatDoor
open Go.RowKit
open Go.RowKit
attribute [local go_sem ↓] Go.wp_at_zero Go.wp_at_succ
attribute [local go_sem] rowAt_ptr rowOf_drew rowOf_drewN rowOf_alloc_past rowOf_new
attribute [local go_sem ↓] ldNode22 ldTree22 ldAttrR ldEntry ldLim22

theorem tells_right (w : World) (g : Nat) (a : Attr) (h : Blk w g 40 a.vals) : Tells w 96 #[.pointer (some ⟨g, 0, none⟩)] (fun n => n.attr.id == a.id) where
  run := Tryz.call96
  calls := fun W n hb => by
    have hg := h.lt
    have h1 : W.cell? ⟨g, 6, none⟩ = some (.int .i64 a.id) := (h.stays hb).cell 6
    have h2 : (W.alloc (.cells n.vals.toArray 65)).cell? ⟨W.heap.size, 6, none⟩ = some (.int .i64 n.attr.id) := range_new W n.vals 65 6 _ rfl
    have h3 := Nat.lt_of_lt_of_le hg hb.size
    go_enter Tryz.func96, Tryz.ntmps96
    go_wp2
    go_ret
    exact ⟨rfl, (Below.refl _ _).alloc (Nat.le_refl _) _⟩
theorem any_id {ns : List Nd} {k : Nat} (hk : k ≤ ns.length) (id : Int) : ((ns.take k).any fun n : Nd => n.attr.id == id) = false ↔ ∀ j, j < k → (ns.getD j ndZ).attr.id ≠ id := by
  rw [List.any_eq_false]
  constructor
  · intro h j hj
    have hjl : j < ns.length := by omega
    rw [getD_nd hjl]
    have := h ns[j] (List.mem_take_iff_getElem.2 ⟨j, by omega, rfl⟩)
    simpa using this
  · intro h n hn
    obtain ⟨j, hj, rfl⟩ := List.mem_take_iff_getElem.1 hn
    have := h j (by omega)
    rw [getD_nd (by omega)] at this
    simpa using this
set_option maxRecDepth 20000 in
set_option maxHeartbeats 6400000 in
theorem lookRight_iff (t : Tr) (ps : List (Nd × List Entry)) (k : Nat) (w : World) (hkp : k < ps.length) (hT : TreeH w t ps) (hg : ∀ p ∈ ps, p.1.good) (hnc : t.ns.length ≤ t.nc) (hecs : ∀ p ∈ ps, p.2.length ≤ p.1.ec) :
    Calls Tryz.prog 59 #[t.val, .int .i64 k] w (TellsP (NodOk (comesG t.ns) t ps k ps[k].1 ps[k].2) w) := by
  have bT := Blk.new w 26 t.vals
  have hB : Below w.heap.size w (w.alloc (.cells t.vals.toArray 26)) := (Below.refl _ _).alloc (Nat.le_refl _) _
  obtain ⟨wr, hw1⟩ : ∃ V, V = w.alloc (.cells t.vals.toArray 26) := ⟨_, rfl⟩
  rw [← hw1] at bT hB
  have c3 : wr.cell? ⟨w.heap.size, 3, none⟩ = some (.int .i64 t.now) := bT.cell 3
  have c4 : wr.cell? ⟨w.heap.size, 4, none⟩ = some (.int .i64 t.gens) := bT.cell 4
  have c5 : wr.cell? ⟨w.heap.size, 5, none⟩ = some (.slice t.na t.ns.length t.nc) := bT.cell 5
  have rT : rowOf wr w.heap.size 0 6 = some t.vals.toArray := bT.row 0 6 (by rw [Tr.len]; omega)
  have hlT3 := bT.lt
  have HW1 := Lib.hid hw1
  have HT2 := Lib.hid (hT.below hB)
  have HF := Lib.hid hB
  have hlen := hT.few.1
  have hk0 : (0 : Int) ≤ (k : Int) := Int.natCast_nonneg _
  have hns := HT2.out.ns
  have hlt : k < t.ns.length := by rw [hns, List.length_map]; exact hkp
  have hk1 : (k : Int) < (t.ns.length : Int) := by omega
  have hkc : (k : Int) ≤ (t.nc : Int) := by omega
  have hpm : ps[k] ∈ ps := List.getElem_mem hkp
  have hnk : t.ns[k] = ps[k].1 := by simp only [hns, List.getElem_map]
  have hec := hecs _ hpm
  have hgd := (hg _ hpm).1
  obtain ⟨p, hp⟩ : ∃ p, p = ps[k] := ⟨_, rfl⟩
  rw [← hp] at hpm hnk hec hgd ⊢
  obtain ⟨nd, es⟩ := p
  simp only at hnk hec hgd ⊢
  obtain ⟨b1, o1, hna, hb1, rn, -⟩ := rowCell8 Nd.len (by decide) HT2.out.at_ hlt
  rw [hnk] at rn
  rw [hna] at c5
  have hen := (HT2.out.ents _ hpm).1
  have hE := (HT2.out.ents _ hpm).2
  have hrw := HT2.out.rows _ hpm
  have hdl : (dataL nd).length ≤ 1048576 := by
    have h1 : nd ∈ t.ns := by rw [hns]; exact List.mem_map_of_mem hpm
    have := HT2.out.few.2 _ h1
    rw [dataL_len]
    omega
  simp only at hen hE hrw
  have KC := Lib.hid (fun W => check5_any nd.attr W hgd)
  have KD := Lib.hid (fun W (h : Below wr.heap.size wr W) => lookDirectory_iff t ps nd es W (HT2.out.below h) hen hrw.1 hec hrw.2 hdl (hE.below h))
  have KO := Lib.hid (fun W (h : Below wr.heap.size wr W) => lookOther_iff t ps nd es W (HT2.out.below h) hen hdl)
  have HAt := Lib.hid (fun W (h : Below wr.heap.size wr W) (j : Nat) (hj : j < t.ns.length) => (show (∀ q u, ((t.ns.getD j ndZ).vals)[q]? = some u → W.cell? ⟨b1, o1 + j * 15 + q, none⟩ = some u) by
    rw [getD_nd hj]
    obtain ⟨b2, o2, hna2, -, -, cc⟩ := rowCell8 Nd.len (by decide) ((HT2.out.below h).at_) hj
    rw [hna] at hna2
    injection hna2 with h1
    injection h1 with h2 h3 h4
    subst h2 h3
    exact cc))
  have hkl : (t.ns.take k).length = k := by rw [List.length_take]; omega
  have KA := Lib.hid (fun W g (a : Attr) (h : Below wr.heap.size wr W) (hb : Blk W g 40 a.vals) => (show Calls Tryz.prog 95 #[.slice (some ⟨b1, o1, none⟩) k t.nc, .func (.func 96) #[] #[.pointer (some ⟨g, 0, none⟩)]] W fun e w' => e = .returned (.bool ((t.ns.take k).any fun n => n.attr.id == a.id)) ∧ Below W.heap.size W w' by
    have := containsFunc_any (some ⟨b1, o1, none⟩) t.nc (t.ns.take k) W _ _ _ (by omega) (by rw [List.map_take, ← hna]; exact (HT2.out.at_.below h).takeRows k) (tells_right W g a hb)
    rw [hkl] at this
    exact this))
  have HAI := Lib.hid (fun id => any_id (ns := t.ns) (k := k) (by omega) id)
  have HND := Lib.hid (show NodOk (comesG t.ns) t ps k nd es ↔ (nd.attr.ok = true ∧ 1 ≤ nd.attr.id ∧ 1 ≤ nd.attr.gen ∧ nd.attr.gen ≤ t.gens ∧ nd.attr.change ≤ t.now ∧ nd.attr.size = (nd.data.size : Int) ∧ (k = 0 → nd.attr.gen = 1 ∧ nd.attr.type = 2) ∧
    (0 < k → (t.ns.getD (k - 1) ndZ).attr.gen < nd.attr.gen) ∧ (∀ j, j < k → (t.ns.getD j ndZ).attr.id ≠ nd.attr.id) ∧ (nd.attr.type = 2 → DirOk (comesG t.ns) ps t.ns nd es) ∧ (nd.attr.type ≠ 2 → OthOk ps nd es)) from Iff.rfl)
  have bN := Blk.new wr 65 nd.vals
  have hbN : Below wr.heap.size wr (wr.alloc (.cells nd.vals.toArray 65)) := (Below.refl _ _).alloc (Nat.le_refl _) _
  clear hw1 bT hT hB hp hpm hnk hna hen hE hrw hdl hns hkp hec hgd hg hecs hkl
  unfold Tr.val at KD KO ⊢
  generalize NodOk (comesG t.ns) t ps k nd es = NO at *
  generalize DirOk (comesG t.ns) ps t.ns nd es = DP at *
  generalize OthOk ps nd es = OP at *
  go_enter Tryz.func59, Tryz.ntmps59
  go_upto_region 1 with fail
  change Code.wp _ _ _ _ (w.alloc (.cells t.vals.toArray 26))
  rw [← HW1.out]
  go_upto_region 2 with (first | (refine wpList_new_struct (by rfl) (by rfl) 65 (by rfl) _ _ (by rfl) nd.vals infoNode (by rfl) (by rfl) (Nd.one _) (by rfl) (by rfl) ?_) | fail)
  generalize wr.alloc (.cells nd.vals.toArray 65) = w5 at *
  have rA : rowOf w5 wr.heap.size 0 10 = some nd.attr.vals.toArray := bN.row 0 10 (by rw [Nd.len]; omega)
  have bA := Blk.new w5 40 nd.attr.vals
  have hbA : Below w5.heap.size w5 (w5.alloc (.cells nd.attr.vals.toArray 40)) := (Below.refl _ _).alloc (Nat.le_refl _) _
  go_upto_region 3 with (first | (refine wpList_new_struct (by rfl) (by rfl) 40 (by rfl) _ _ (by rfl) nd.attr.vals infoAttr22 (by rfl) (by rfl) (Attr.one _) (by rfl) (by rfl) ?_) | fail)
  replace bN := bN.stays hbA
  have hbw6 := below_then hbN hbA
  generalize w5.alloc (.cells nd.attr.vals.toArray 40) = w6 at *
  have rA6 : rowOf w6 w5.heap.size 0 10 = some nd.attr.vals.toArray := bA.row 0 10 (by rw [Attr.len]; omega)
  clear rn rA hbN hbA
  go_wp2_with fail
  refine (KC.out _).mono ?_
  rintro e w7 ⟨rfl, hb⟩
  replace bN := bN.stays hb
  replace bA := bA.stays hb
  have hb7 := below_then hbw6 hb
  replace c3 := (hb7.cell (p := ⟨w.heap.size, 3, none⟩) hlT3).trans c3
  replace c4 := (hb7.cell (p := ⟨w.heap.size, 4, none⟩) hlT3).trans c4
  replace c5 := (hb7.cell (p := ⟨w.heap.size, 5, none⟩) hlT3).trans c5
  replace rT := (rowOf_below hb7 hlT3 0 6).trans rT
  have a0 : w7.cell? ⟨w5.heap.size, 0, none⟩ = some (.int .i64 nd.attr.type) := bA.cell 0
  have a5 : w7.cell? ⟨w5.heap.size, 5, none⟩ = some (.int .i64 nd.attr.size) := bA.cell 5
  have a6 : w7.cell? ⟨w5.heap.size, 6, none⟩ = some (.int .i64 nd.attr.id) := bA.cell 6
  have a7 : w7.cell? ⟨w5.heap.size, 7, none⟩ = some (.int .i64 nd.attr.gen) := bA.cell 7
  have a8 : w7.cell? ⟨w5.heap.size, 8, none⟩ = some (.int .i64 nd.attr.change) := bA.cell 8
  have d10 : w7.cell? ⟨wr.heap.size, 10, none⟩ = some (.string nd.data) := bN.cell 10
  have rN : rowOf w7 wr.heap.size 0 15 = some nd.vals.toArray := bN.row 0 15 (by rw [Nd.len]; omega)
  have hlA7 := bA.lt
  have hlN7 := bN.lt
  have hlT7 := Nat.lt_of_lt_of_le hlT3 hb7.size
  have HB7 := Lib.hid hb7
  have HF7 := Lib.hid (show Below w.heap.size w w7 from below_then HF.out HB7.out)
  have KAx := Lib.hid (fun n => KA.out (w7.drewN n) w5.heap.size nd.attr (bdN HB7.out n) (Blk.stays bA (bdN (Below.refl _ _) n)))
  have HAIx := Lib.hid (HAI.out nd.attr.id)
  clear hb hb7 hbw6 bN bA rA6 KC KA HAI
  have hokf : form nd.attr.ok = if nd.attr.ok then 0 else 14 := rfl
  rw [hokf]
  generalize (t.ns.take k).any (fun n => n.attr.id == nd.attr.id) = anyI at *
  generalize nd.attr.ok = oka at *
  generalize nd.attr.type = ty at *
  generalize nd.attr.gen = gn at *
  generalize nd.attr.id = id at *
  generalize nd.attr.size = sz at *
  generalize nd.attr.change = cg at *
  clear hokf
  cases oka
  case false =>
    have HQ := Lib.hid (show ¬ NO from fun h => by have := (HND.out.1 h).1; cases this)
    simp only [Bool.false_eq_true, if_false]
    go_wp2
    go_ret
    exact TellsP.no HQ.out HF7.out
  simp only [if_true]
  by_cases q1 : id < 1
  · have HQ := Lib.hid (show ¬ NO from fun h => absurd (HND.out.1 h).2.1 (by omega))
    go_wp2
    go_ret
    exact TellsP.no HQ.out HF7.out
  have q1d : decide (id < 1) = false := decide_eq_false q1
  by_cases q2 : gn < 1
  · have HQ := Lib.hid (show ¬ NO from fun h => absurd (HND.out.1 h).2.2.1 (by omega))
    go_wp2
    go_ret
    exact TellsP.no HQ.out HF7.out
  have q2d : decide (gn < 1) = false := decide_eq_false q2
  by_cases q3 : t.gens < gn
  · have HQ := Lib.hid (show ¬ NO from fun h => absurd (HND.out.1 h).2.2.2.1 (by omega))
    go_wp2
    go_ret
    exact TellsP.no HQ.out HF7.out
  have q3d : decide (t.gens < gn) = false := decide_eq_false q3
  by_cases q4 : t.now < cg
  · have HQ := Lib.hid (show ¬ NO from fun h => absurd (HND.out.1 h).2.2.2.2.1 (by omega))
    go_wp2
    go_ret
    exact TellsP.no HQ.out HF7.out
  have q4d : decide (t.now < cg) = false := decide_eq_false q4
  by_cases q5 : sz = (nd.data.size : Int)
  case neg =>
    have hsz1 : (sz != (nd.data.size : Int)) = true := by simpa using q5
    have HQ := Lib.hid (show ¬ NO from fun h => q5 (HND.out.1 h).2.2.2.2.2.1)
    clear q5
    go_wp2
    go_ret
    exact TellsP.no HQ.out HF7.out
  have hq3 : (sz != (nd.data.size : Int)) = false := by simpa using q5
  have HN2 := Lib.hid (show NO ↔ ((k = 0 → gn = 1 ∧ ty = 2) ∧ (0 < k → (t.ns.getD (k - 1) ndZ).attr.gen < gn) ∧ (∀ j, j < k → (t.ns.getD j ndZ).attr.id ≠ id) ∧ (ty = 2 → DP) ∧ (ty ≠ 2 → OP)) from
    ⟨fun h => (HND.out.1 h).2.2.2.2.2.2, fun h => HND.out.2 ⟨rfl, by omega, by omega, by omega, by omega, q5, h⟩⟩)
  clear HND q5
  go_wp2_with fail
  clear c3 c4 a5 a8 d10 hq3 q1 q2 q3 q4 q1d q2d q3d q4d
  have hprev : ∀ (h : 0 < k), w7.cell? ⟨b1, o1 + (k - 1) * 15 + 7, none⟩ = some (.int .i64 (t.ns.getD (k - 1) ndZ).attr.gen) := fun h => HAt.out w7 HB7.out (k - 1) (by omega) 7 _ rfl
  have HQQ := Lib.hid (fun (h : NO ↔ ((∀ j, j < k → (t.ns.getD j ndZ).attr.id ≠ id) ∧ (ty = 2 → DP) ∧ (ty ≠ 2 → OP))) => (show NO ↔ (anyI = false ∧ (ty = 2 → DP) ∧ (ty ≠ 2 → OP)) by rw [HAIx.out]; exact h))
  by_cases hz : k = 0
  · have hz0 : ((k : Int) == 0) = true := by simp [hz]
    have hz1 : ¬ (0 : Int) < (k : Int) := by omega
    have hz2 : ¬ 0 < k := by omega
    clear hprev
    by_cases h2 : gn = 1
    case neg =>
      have h2' : (gn != 1) = true := by simpa using h2
      have HQ := Lib.hid (show ¬ NO from fun h => h2 ((HN2.out.1 h).1 hz).1)
      clear hz h2
      go_quiet (fail)
      go_wp2
      go_ret
      exact TellsP.no HQ.out (bdN HF7.out _)
    have h2' : (gn != 1) = false := by simpa using h2
    by_cases h3 : ty = 2
    case neg =>
      have h3' : (ty != 2) = true := by simpa using h3
      have HQ := Lib.hid (show ¬ NO from fun h => h3 ((HN2.out.1 h).1 hz).2)
      clear hz h2 h3
      go_quiet (fail)
      go_wp2
      go_ret
      exact TellsP.no HQ.out (bdN HF7.out _)
    have h3' : (ty != 2) = false := by simpa using h3
    have HN3 := Lib.hid (HQQ.out (show NO ↔ ((∀ j, j < k → (t.ns.getD j ndZ).attr.id ≠ id) ∧ (ty = 2 → DP) ∧ (ty ≠ 2 → OP)) from
      ⟨fun h => (HN2.out.1 h).2.2, fun h => HN2.out.2 ⟨fun _ => ⟨h2, h3⟩, fun h0 => absurd h0 hz2, h⟩⟩))
    clear hz h2 h3 HN2 HQQ
    go_quiet (fail)
    clear hz0 hz1 hz2
    go_wp2_with fail
    refine (KAx.out _).mono ?_
    rintro e w8 ⟨rfl, hb⟩
    replace rT := (rowOf_below hb hlT7 0 6).trans rT
    replace a0 := (hb.cell (p := ⟨w5.heap.size, 0, none⟩) hlA7).trans a0
    replace rN := (rowOf_below hb hlN7 0 15).trans rN
    have HB8 := Lib.hid ((bdN HB7.out _).trans (hb.mono (bdN HB7.out _).size))
    have HF8 := Lib.hid (show Below w.heap.size w w8 from below_then HF.out HB8.out)
    clear hb a6 a7 KAx
    cases anyI
    case true =>
      have HQ := Lib.hid (show ¬ NO from fun h => by have := (HN3.out.1 h).1; cases this)
      go_wp2
      go_ret
      exact TellsP.no HQ.out HF8.out
    have HN4 := Lib.hid (show NO ↔ ((ty = 2 → DP) ∧ (ty ≠ 2 → OP)) from ⟨fun h => (HN3.out.1 h).2, fun h => HN3.out.2 ⟨rfl, h⟩⟩)
    clear HN3
    by_cases ht : ty = 2
    · have HN5 := Lib.hid (show DP ↔ NO from ⟨fun h => HN4.out.2 ⟨fun _ => h, fun h2 => absurd ht h2⟩, fun h => (HN4.out.1 h).1 ht⟩)
      have ht1 : (ty == 2) = true := by simpa using ht
      clear HN4 ht
      go_wp2_with fail
      refine (KD.out _ HB8.out).mono ?_
      rintro e w9 ⟨b, rfl, hd, hb9⟩
      have HF9 := Lib.hid (below_then HF8.out hb9)
      have HD9 := Lib.hid (hd.trans HN5.out)
      clear hb9 hd
      go_wp2
      go_ret
      exact TellsP.is HD9.out HF9.out
    · have HN5 := Lib.hid (show OP ↔ NO from ⟨fun h => HN4.out.2 ⟨fun h2 => absurd h2 ht, fun _ => h⟩, fun h => (HN4.out.1 h).2 ht⟩)
      have ht1 : (ty == 2) = false := by simpa using ht
      clear HN4 ht
      go_wp2_with fail
      refine (KO.out _ HB8.out).mono ?_
      rintro e w9 ⟨b, rfl, hd, hb9⟩
      have HF9 := Lib.hid (below_then HF8.out hb9)
      have HD9 := Lib.hid (hd.trans HN5.out)
      clear hb9 hd
      go_wp2
      go_ret
      exact TellsP.is HD9.out HF9.out
  · have hz0 : ((k : Int) == 0) = false := by simp; omega
    have hz1 : (0 : Int) < (k : Int) := by omega
    have hz3 : 0 < k := by omega
    have hwk : IntKind.i64.wrap ((k : Int) - 1) = ((k - 1 : Nat) : Int) := by rw [IntWalk.i64_in _ (by omega)]; omega
    have hp0 : (0 : Int) ≤ ((k - 1 : Nat) : Int) := Int.natCast_nonneg _
    have hp1 : ((k - 1 : Nat) : Int) < (t.ns.length : Int) := by omega
    have hpc := hprev (by omega)
    have HN3a := Lib.hid (show NO ↔ ((t.ns.getD (k - 1) ndZ).attr.gen < gn ∧ (∀ j, j < k → (t.ns.getD j ndZ).attr.id ≠ id) ∧ (ty = 2 → DP) ∧ (ty ≠ 2 → OP)) from
      ⟨fun h => ⟨(HN2.out.1 h).2.1 (by omega), (HN2.out.1 h).2.2⟩, fun h => HN2.out.2 ⟨fun h0 => absurd h0 hz, fun _ => h.1, h.2⟩⟩)
    generalize (t.ns.getD (k - 1) ndZ).attr.gen = pg at *
    clear hprev HN2
    by_cases hpg : pg < gn
    case neg =>
      have hpg1 : gn ≤ pg := by omega
      have HQ := Lib.hid (show ¬ NO from fun h => hpg (HN3a.out.1 h).1)
      clear hz
      go_quiet (fail)
      go_wp2
      go_ret
      exact TellsP.no HQ.out (bdN HF7.out _)
    have hpg1 : ¬ gn ≤ pg := by omega
    have HN3 := Lib.hid (HQQ.out (show NO ↔ ((∀ j, j < k → (t.ns.getD j ndZ).attr.id ≠ id) ∧ (ty = 2 → DP) ∧ (ty ≠ 2 → OP)) from ⟨fun h => (HN3a.out.1 h).2, fun h => HN3a.out.2 ⟨hpg, h⟩⟩))
    go_quiet (fail)
    clear hpc hpg hpg1 hz hz3 hz0 hz1 hwk hp0 hp1 HQQ HN3a
    go_wp2_with fail
    refine (KAx.out _).mono ?_
    rintro e w8 ⟨rfl, hb⟩
    replace rT := (rowOf_below hb hlT7 0 6).trans rT
    replace a0 := (hb.cell (p := ⟨w5.heap.size, 0, none⟩) hlA7).trans a0
    replace rN := (rowOf_below hb hlN7 0 15).trans rN
    have HB8 := Lib.hid ((bdN HB7.out _).trans (hb.mono (bdN HB7.out _).size))
    have HF8 := Lib.hid (show Below w.heap.size w w8 from below_then HF.out HB8.out)
    clear hb a6 a7 KAx
    cases anyI
    case true =>
      have HQ := Lib.hid (show ¬ NO from fun h => by have := (HN3.out.1 h).1; cases this)
      go_wp2
      go_ret
      exact TellsP.no HQ.out HF8.out
    have HN4 := Lib.hid (show NO ↔ ((ty = 2 → DP) ∧ (ty ≠ 2 → OP)) from ⟨fun h => (HN3.out.1 h).2, fun h => HN3.out.2 ⟨rfl, h⟩⟩)
    clear HN3
    by_cases ht : ty = 2
    · have HN5 := Lib.hid (show DP ↔ NO from ⟨fun h => HN4.out.2 ⟨fun _ => h, fun h2 => absurd ht h2⟩, fun h => (HN4.out.1 h).1 ht⟩)
      have ht1 : (ty == 2) = true := by simpa using ht
      clear HN4 ht
      go_wp2_with fail
      refine (KD.out _ HB8.out).mono ?_
      rintro e w9 ⟨b, rfl, hd, hb9⟩
      have HF9 := Lib.hid (below_then HF8.out hb9)
      have HD9 := Lib.hid (hd.trans HN5.out)
      clear hb9 hd
      go_wp2
      go_ret
      exact TellsP.is HD9.out HF9.out
    · have HN5 := Lib.hid (show OP ↔ NO from ⟨fun h => HN4.out.2 ⟨fun h2 => absurd h2 ht, fun _ => h⟩, fun h => (HN4.out.1 h).2 ht⟩)
      have ht1 : (ty == 2) = false := by simpa using ht
      clear HN4 ht
      go_wp2_with fail
      refine (KO.out _ HB8.out).mono ?_
      rintro e w9 ⟨b, rfl, hd, hb9⟩
      have HF9 := Lib.hid (below_then HF8.out hb9)
      have HD9 := Lib.hid (hd.trans HN5.out)
      clear hb9 hd
      go_wp2
      go_ret
      exact TellsP.is HD9.out HF9.out
set_option maxRecDepth 20000 in
set_option maxHeartbeats 3200000 in
theorem lookCheck_iff (t : Tr) (ps : List (Nd × List Entry)) (w : World) (hT : TreeH w t ps) (hg : ∀ p ∈ ps, p.1.good) (hnc : t.ns.length ≤ t.nc) (hecs : ∀ p ∈ ps, p.2.length ≤ p.1.ec) :
    Calls Tryz.prog 23 #[t.val] w (Forms (TreeOk (comesG t.ns) t ps) w) := by
  have bT := Blk.new w 26 t.vals
  have hB : Below w.heap.size w (w.alloc (.cells t.vals.toArray 26)) := (Below.refl _ _).alloc (Nat.le_refl _) _
  obtain ⟨w1, hw1⟩ : ∃ V, V = w.alloc (.cells t.vals.toArray 26) := ⟨_, rfl⟩
  rw [← hw1] at bT hB
  have c5 : w1.cell? ⟨w.heap.size, 5, none⟩ = some (.slice t.na t.ns.length t.nc) := bT.cell 5
  have c2 : w1.cell? ⟨w.heap.size, 2, none⟩ = some (.int .i64 t.lim.nodes) := bT.cell 2
  have rL : rowOf w1 w.heap.size 0 3 = some t.lim.vals.toArray := bT.row 0 3 (by rw [Tr.len]; omega)
  have rT : rowOf w1 w.heap.size 0 6 = some t.vals.toArray := bT.row 0 6 (by rw [Tr.len]; omega)
  have hlT := bT.lt
  have HW1 := Lib.hid hw1
  have HT := Lib.hid (hT.below hB)
  have KL := Lib.hid (fun W => check_any t.lim W)
  have HB := Lib.hid hB
  have hlen := hT.few.1
  have hlp : t.ns.length = ps.length := by rw [hT.ns, List.length_map]
  have HD := Lib.hid (show TreeOk (comesG t.ns) t ps ↔ (t.lim.ok = true ∧ 1 ≤ t.ns.length ∧ (t.ns.length : Int) ≤ t.lim.nodes ∧ ∀ (j : Nat) (hj : j < ps.length), NodOk (comesG t.ns) t ps j ps[j].1 ps[j].2) from Iff.rfl)
  have KR := Lib.hid (fun (k : Nat) (hk : k < ps.length) W (h : Below w1.heap.size w1 W) => lookRight_iff t ps k W hk (HT.out.below h) hg hnc hecs)
  generalize TreeOk (comesG t.ns) t ps = D at *
  have HLP := Lib.hid hlp
  clear hw1 bT hT hB hlp hg hnc hecs
  unfold Tr.val at KR ⊢
  go_enter Tryz.func23, Tryz.ntmps23
  go_upto_region 1 with fail
  change Code.wp _ _ _ _ (w.alloc (.cells t.vals.toArray 26))
  rw [← HW1.out]
  go_wp2_with fail
  refine (KL.out _).mono ?_
  rintro e w2 ⟨rfl, hb⟩
  replace c2 := (hb.cell (p := ⟨w.heap.size, 2, none⟩) hlT).trans c2
  replace c5 := (hb.cell (p := ⟨w.heap.size, 5, none⟩) hlT).trans c5
  replace rT := (rowOf_below hb hlT 0 6).trans rT
  have hlT2 := Nat.lt_of_lt_of_le hlT hb.size
  have HF := Lib.hid (show Below w.heap.size w w2 from below_then HB.out hb)
  have HB2 := Lib.hid hb
  clear hb rL hlT HT HB HW1 KL
  have hokf : errv 3 t.lim.ok = if t.lim.ok then 0 else 3 := rfl
  rw [hokf]
  generalize t.lim.ok = lo at *
  clear hokf
  cases lo
  case false =>
    have HQ := Lib.hid (show ¬ D from fun h => by have := (HD.out.1 h).1; cases this)
    simp only [Bool.false_eq_true, if_false]
    go_wp2
    go_ret
    exact Forms.no HQ.out HF.out
  simp only [if_true]
  by_cases q1 : 1 ≤ t.ns.length
  case neg =>
    have q1b : (t.ns.length : Int) < 1 := by omega
    have q1c : decide ((t.ns.length : Int) < 1) = true := decide_eq_true q1b
    have HQ := Lib.hid (show ¬ D from fun h => q1 (HD.out.1 h).2.1)
    clear q1
    go_wp2
    go_ret
    exact Forms.no HQ.out HF.out
  have q1b : ¬ (t.ns.length : Int) < 1 := by omega
  have q1c : decide ((t.ns.length : Int) < 1) = false := decide_eq_false q1b
  by_cases q2 : (t.ns.length : Int) ≤ t.lim.nodes
  case neg =>
    have q2b : t.lim.nodes < (t.ns.length : Int) := by omega
    have HQ := Lib.hid (show ¬ D from fun h => q2 (HD.out.1 h).2.2.1)
    clear q1 q2
    go_wp2
    go_ret
    exact Forms.no HQ.out HF.out
  have q2b : ¬ t.lim.nodes < (t.ns.length : Int) := by omega
  have q2c : decide (t.lim.nodes < (t.ns.length : Int)) = false := decide_eq_false q2b
  have HDN := Lib.hid (show D ↔ ∀ (j : Nat) (hj : j < ps.length), NodOk (comesG t.ns) t ps j ps[j].1 ps[j].2 from ⟨fun h => (HD.out.1 h).2.2.2, fun h => HD.out.2 ⟨rfl, q1, q2, h⟩⟩)
  have HTr := Lib.hid rT
  clear HD
  go_wp2
  clear c2 c5 rT q1 q2 q1b q2b q1c q2c
  go_loopw [26] (fun i wr => ∃ k : Nat, k ≤ t.ns.length ∧ i = .int .i64 k ∧ NodsK (comesG t.ns) t ps k ∧ Below w2.heap.size w2 wr) (fun i _ => t.ns.length - (intOf i).toNat)
  case atStart => exact ⟨0, Nat.zero_le _, rfl, NodsK.zero, Below.refl _ _⟩
  case round =>
    obtain ⟨k, hk, rfl, hok, hb⟩ := hrel
    have rT := HTr.out
    replace rT := (rowOf_below hb hlT2 0 6).trans rT
    have hk0 : (0 : Int) ≤ (k : Int) := Int.natCast_nonneg _
    by_cases hlt : k < t.ns.length
    · have hk1 : (k : Int) < (t.ns.length : Int) := by omega
      have hiw : IntKind.i64.wrap ((k : Int) + 1) = ((k + 1 : Nat) : Int) := by rw [IntWalk.i64_in _ (by omega)]; omega
      have hkp : k < ps.length := by have := HLP.out; omega
      have HNX := Lib.hid (fun (h : NodOk (comesG t.ns) t ps k ps[k].1 ps[k].2) => (show NodsK (comesG t.ns) t ps (k + 1) from hok.next hkp h))
      have HIF := Lib.hid (fun (h : D) => HDN.out.1 h k hkp)
      have KRk := Lib.hid (KR.out k hkp wr (HB2.out.trans (hb.mono HB2.out.size)))
      have HBr := Lib.hid hb
      generalize NodOk (comesG t.ns) t ps k ps[k].1 ps[k].2 = NO at *
      clear hok hb
      go_wp2_with fail
      refine KRk.out.mono ?_
      rintro e w4 ⟨b, rfl, hd, hb⟩
      have HB4 := Lib.hid (HBr.out.trans (hb.mono HBr.out.size))
      have HF4 := Lib.hid (show Below w.heap.size w w4 from below_then HF.out HB4.out)
      clear hb KRk
      cases b
      case false =>
        have HQ := Lib.hid (show ¬ D from fun h => by have := hd.2 (HIF.out h); cases this)
        clear hd
        go_wp2
        go_ret
        exact Forms.no HQ.out HF4.out
      have HN := Lib.hid (HNX.out (hd.1 rfl))
      clear hd
      go_wp2
      go_roundw
      case rel => first
        | exact ⟨k + 1, by omega, by first | rfl | go_num, HN.out, HB4.out⟩
        | (repeat apply Exists.intro
           refine ⟨?_, rfl⟩
           exact ⟨k + 1, by omega, by first | rfl | go_num, HN.out, HB4.out⟩)
      case measure => simp [intOf]; omega
    · obtain rfl : k = t.ns.length := by omega
      have hlm : ¬ (t.ns.length : Int) < (t.ns.length : Int) := by omega
      have HY := Lib.hid (show D from HDN.out.2 fun j hj => hok j hj (by have := HLP.out; omega))
      have HFr := Lib.hid (show Below w.heap.size w wr from below_then HF.out hb)
      clear hok hb
      go_wp2
      go_ret
      exact Forms.yes HY.out HFr.out
end Go.Proofs.YtgifmpobokaejaaGreatDoor

/-
  Layer 22, walks: the program's Do. Conditions: a tree that is not too large.
-/
namespace Go.Proofs.YtgifmpobokaejaaGreatDoor
open Go.RowKit
open Go.RowKit
attribute [local go_sem ↓] Go.wp_at_zero Go.wp_at_succ
attribute [local go_sem] rowAt_ptr rowOf_drew rowOf_drewN rowOf_alloc_past rowOf_new
attribute [local go_sem ↓] ldAsk22 ldNode22 ldCred6 ldAttrR ldTree22 ldCall ldReply

theorem chain4_blks (w : World) (a b c d : List Value) (S T U V : TypeId) : Blk ((((w.alloc (.cells a.toArray S)).alloc (.cells b.toArray T)).alloc (.cells c.toArray U)).alloc (.cells d.toArray V)) w.heap.size S a ∧ Blk ((((w.alloc (.cells a.toArray S)).alloc (.cells b.toArray T)).alloc (.cells c.toArray U)).alloc (.cells d.toArray V)) (w.heap.size + 1) T b ∧
    Blk ((((w.alloc (.cells a.toArray S)).alloc (.cells b.toArray T)).alloc (.cells c.toArray U)).alloc (.cells d.toArray V)) (w.heap.size + 1 + 1) U c ∧ Blk ((((w.alloc (.cells a.toArray S)).alloc (.cells b.toArray T)).alloc (.cells c.toArray U)).alloc (.cells d.toArray V)) (w.heap.size + 1 + 1 + 1) V d ∧
    Below w.heap.size w ((((w.alloc (.cells a.toArray S)).alloc (.cells b.toArray T)).alloc (.cells c.toArray U)).alloc (.cells d.toArray V)) ∧ ((((w.alloc (.cells a.toArray S)).alloc (.cells b.toArray T)).alloc (.cells c.toArray U)).alloc (.cells d.toArray V)).heap.size = w.heap.size + 1 + 1 + 1 + 1 := by
  obtain ⟨h1, h2, h3, h4, h5⟩ := chain3_blks w a b c S T U
  generalize ((w.alloc (.cells a.toArray S)).alloc (.cells b.toArray T)).alloc (.cells c.toArray U) = w1 at *
  have h6 := Blk.new w1 V d
  rw [h5] at h6
  exact ⟨h1.alloc _, h2.alloc _, h3.alloc _, h6, h4.alloc h4.size _, by simp [h5]⟩
/-- four structs are built into one -/
@[irreducible] def catV (A B C D : Value) : Value := .agg (A.cells ++ (B.cells ++ (C.cells ++ D.cells)))
theorem catV_ask (t : Tr) (u : Cred) (c : Call) (n : Nd) : catV (.agg t.vals.toArray) (.agg u.vals.toArray) (.agg c.vals.toArray) (.agg n.vals.toArray) = .agg (askV t u c n).toArray := by
  unfold catV askV
  simp [Value.cells]
@[irreducible] def sizesV (A B C D : Value) : Prop := ∃ (t : Tr) (u : Cred) (c : Call) (n : Nd), A = .agg t.vals.toArray ∧ B = .agg u.vals.toArray ∧ C = .agg c.vals.toArray ∧ D = .agg n.vals.toArray
theorem sizesV_ask (t : Tr) (u : Cred) (c : Call) (n : Nd) : sizesV (.agg t.vals.toArray) (.agg u.vals.toArray) (.agg c.vals.toArray) (.agg n.vals.toArray) := by
  unfold sizesV
  exact ⟨t, u, c, n, rfl, rfl, rfl, rfl⟩
theorem runBuildAsk (t : Tr) (u : Cred) (c : Call) (n : Nd) (w : World) : (Instr.build 76 #[(0, .agg t.vals.toArray), (1, .agg u.vals.toArray), (2, .agg c.vals.toArray), (3, .agg n.vals.toArray)]).run Tryz.prog w = .ok (.agg (askV t u c n).toArray) w := by
  kernel_rfl
theorem exBuildAsk {ρ : Operand → Value} {w : World} {dst : Option Tmp} {ty : TypeId} {pos : String} {after : Array Edge} {g : Option (Nat × Bool)} {a b c d : Operand} (h : sizesV (ρ a) (ρ b) (ρ c) (ρ d)) :
    (execOp ρ ⟨dst, .build 76 #[(0, a), (1, b), (2, c), (3, d)], ty, pos, after, g⟩).run Tryz.prog w = .ok (.value (catV (ρ a) (ρ b) (ρ c) (ρ d))) w := by
  unfold sizesV at h
  obtain ⟨t, u, cl, n, h1, h2, h3, h4⟩ := h
  rw [h1, h2, h3, h4, catV_ask]
  unfold execOp
  simp only [List.map_toArray, List.map_cons, List.map_nil, h1, h2, h3, h4]
  rw [Sem.run_bind, runBuildAsk]
  rfl
/-- two structs are built into one -/
@[irreducible] def cat2V (A B : Value) : Value := .agg (A.cells ++ B.cells)
theorem cat2V_wcc (x : Bool) (y : Int) (p : Post) : cat2V (.agg #[.bool x, .int .i64 y]) (.agg p.vals.toArray) = .agg (Wcc.mk ⟨x, y⟩ p).vals.toArray := by
  unfold cat2V
  simp [Value.cells, Wcc.vals, Opt.vals]
@[irreducible] def sizes2V (A B : Value) : Prop := ∃ (x : Bool) (y : Int) (p : Post), A = .agg #[.bool x, .int .i64 y] ∧ B = .agg p.vals.toArray
theorem sizes2V_wcc (x : Bool) (y : Int) (p : Post) : sizes2V (.agg #[.bool x, .int .i64 y]) (.agg p.vals.toArray) := by
  unfold sizes2V
  exact ⟨x, y, p, rfl, rfl⟩
theorem runBuildWcc (x : Bool) (y : Int) (p : Post) (w : World) : (Instr.build 44 #[(0, .agg #[.bool x, .int .i64 y]), (1, .agg p.vals.toArray)]).run Tryz.prog w = .ok (.agg (Wcc.mk ⟨x, y⟩ p).vals.toArray) w := by
  kernel_rfl
theorem exBuildWcc {ρ : Operand → Value} {w : World} {dst : Option Tmp} {ty : TypeId} {pos : String} {after : Array Edge} {g : Option (Nat × Bool)} {a b : Operand} (h : sizes2V (ρ a) (ρ b)) :
    (execOp ρ ⟨dst, .build 44 #[(0, a), (1, b)], ty, pos, after, g⟩).run Tryz.prog w = .ok (.value (cat2V (ρ a) (ρ b))) w := by
  unfold sizes2V at h
  obtain ⟨x, y, p, h1, h2⟩ := h
  rw [h1, h2, cat2V_wcc]
  unfold execOp
  simp only [List.map_toArray, List.map_cons, List.map_nil, h1, h2]
  rw [Sem.run_bind, runBuildWcc]
  rfl
theorem stWcc22 {ρ : Operand → Value} {w : World} {dst : Option Tmp} {ty : TypeId} {pos : String} {after : Array Edge} {g : Option (Nat × Bool)} {x y : Operand} (hx : ptrAt (ρ x) = true) (hy : rowOk 13 (ρ y)) (ht : w.there (blkAt (ρ x)) (offAt (ρ x)) 13) :
    (execOp ρ ⟨dst, .store 44 x y, ty, pos, after, g⟩).run Tryz.prog w = .ok .skip (putsW w (blkAt (ρ x)) (offAt (ρ x)) (ρ y).cells.toList) := exStoreAt (by kernel_rfl) hx hy ht
/-- what is told of the node besides -/
def toldR (p : Int) (n : Nd) (r : RepD) : RepD :=
  if p = 3 then { r with f := { r.f with dir := postN n } } else if p = 21 then { r with f := { r.f with wcc := ⟨⟨true, n.attr.change⟩, postN n⟩ } } else { r with f := { r.f with obj := postN n } }
/-- results, and whether the procedure reads -/
def doR (t : Tr) (ps : List (Nd × List Entry)) (u : Cred) (c : Call) : RepD × Bool :=
  if c.proc = 0 then (⟨fldsZ, [], []⟩, true)
  else if fnOf c.proc = none then (⟨fldsZ, [], []⟩, false)
  else if (atP t.ns c.fh).2 ≠ 0 then (statD (atP t.ns c.fh).2, true)
  else (toldR c.proc (ps.getD (atP t.ns c.fh).1.toNat (ndZ, [])).1 (askR t u c (ps.getD (atP t.ns c.fh).1.toNat (ndZ, [])).1 (ps.getD (atP t.ns c.fh).1.toNat (ndZ, [])).2), true)
def DoP (d : RepD × Bool) (w : World) (e : Ending) (w' : World) : Prop :=
  ∃ z : Reply, e = .returned (.tuple #[.agg z.vals.toArray, .bool d.2]) ∧ z.bare = d.1.f ∧ (z.en = d.1.es.length ∧ At w' 15 z.ea (d.1.es.map Entry.vals)) ∧ (z.un = d.1.us.length ∧ At w' 1 z.ua (d.1.us.map int1)) ∧ Below w.heap.size w w'
end Go.Proofs.YtgifmpobokaejaaGreatDoor


/-
  Layer 22, walks: how the document tells that a tree is too large. Conditions: machine lengths.
-/
namespace Go.Proofs.YtgifmpobokaejaaGreatDoor
open Go.RowKit
open Go.RowKit
attribute [local go_sem ↓] Go.wp_at_zero Go.wp_at_succ
attribute [local go_sem] rowAt_ptr rowOf_drew rowOf_drewN rowOf_alloc_past rowOf_new
attribute [local go_sem ↓] ldTree22

/-- a tree is not too large -/
def FewT (ps : List (Nd × List Entry)) : Prop := small (ps.map (·.1)) ∧ ∀ p ∈ ps, p.2.length ≤ 70 ∧ ∀ x ∈ p.2, x.name.length ≤ 300
def SaysL (ps : List (Nd × List Entry)) (w : World) (e : Ending) (w' : World) : Prop := ∃ b, e = .returned (.bool b) ∧ (b = false → FewT ps) ∧ Below w.heap.size w w'
theorem SaysL.yes {ps : List (Nd × List Entry)} {w w' : World} (hb : Below w.heap.size w w') : SaysL ps w (.returned (.bool true)) w' := ⟨true, rfl, (fun h => by cases h), hb⟩
theorem SaysL.no {ps : List (Nd × List Entry)} {w w' : World} (h : FewT ps) (hb : Below w.heap.size w w') : SaysL ps w (.returned (.bool false)) w' := ⟨false, rfl, (fun _ => h), hb⟩
theorem le_max22 {n : Nat} (h : n ≤ maxLen) : n ≤ 9223372036854775807 := by
  unfold maxLen at h
  omega
set_option maxRecDepth 20000 in
set_option maxHeartbeats 1600000 in
theorem refLarge22_any (t : Tr) (ps : List (Nd × List Entry)) (w : World) (hns : t.ns = ps.map (·.1)) (hl : ps.length ≤ maxLen) (hA : At w 15 t.na (t.ns.map Nd.vals)) (hE : Ents w ps) (hg : ∀ p ∈ ps, p.1.good) :
    Calls Tryz.prog 7 #[t.val] w (SaysL ps w) := by
  have bT := Blk.new w 26 t.vals
  have hB : Below w.heap.size w (w.alloc (.cells t.vals.toArray 26)) := (Below.refl _ _).alloc (Nat.le_refl _) _
  obtain ⟨w1, hw1⟩ : ∃ V, V = w.alloc (.cells t.vals.toArray 26) := ⟨_, rfl⟩
  rw [← hw1] at bT hB
  have c5 : w1.cell? ⟨w.heap.size, 5, none⟩ = some (.slice t.na t.ns.length t.nc) := bT.cell 5
  have hlT := bT.lt
  have hl9 := le_max22 hl
  clear hl
  have hln : t.ns.length = ps.length := by rw [hns, List.length_map]
  have hgn : ∀ n ∈ t.ns, n.good := fun n hn => by
    rw [hns] at hn
    obtain ⟨p, hp, rfl⟩ := List.mem_map.1 hn
    exact hg p hp
  have KL := Lib.hid (large_any t.na t.nc t.ns w1 (by omega) (fun n hn => ⟨le_max22 (hgn n hn).2.1, le_max22 (hgn n hn).2.2.2.2.2⟩) (hA.below hB))
  have HW1 := Lib.hid hw1
  have HA := Lib.hid (hA.below hB)
  have HE := Lib.hid (hE.below hB)
  have HB := Lib.hid hB
  have HG := Lib.hid hg
  have HNS := Lib.hid hns
  have HLN := Lib.hid hln
  clear hw1 bT hB hA hE hg hgn hln hl9 hns
  unfold Tr.val
  go_enter Tryz.func7, Tryz.ntmps7
  go_upto_region 1 with fail
  change Code.wp _ _ _ _ (w.alloc (.cells t.vals.toArray 26))
  rw [← HW1.out]
  go_wp2_with fail
  refine KL.out.mono ?_
  rintro e w2 ⟨rfl, rfl⟩
  cases hlg : large t.ns
  case true =>
    go_wp2
    go_ret
    exact SaysL.yes HB.out
  have HS := Lib.hid (small_of hlg)
  clear hlg KL HW1
  have hl70 : t.ns.length ≤ 70 := HS.out.1
  go_wp2
  go_loopw [3] (fun i wr => ∃ k : Nat, k ≤ t.ns.length ∧ i = .int .i64 k ∧ (∀ p ∈ ps.take k, p.2.length ≤ 70 ∧ ∀ x ∈ p.2, x.name.length ≤ 300) ∧ Below w1.heap.size w1 wr) (fun i _ => t.ns.length - (intOf i).toNat)
  case atStart => exact ⟨0, Nat.zero_le _, rfl, (by simp), Below.refl _ _⟩
  case round =>
    obtain ⟨k, hk, rfl, hok, hb⟩ := hrel
    replace c5 := (hb.cell (p := ⟨w.heap.size, 5, none⟩) hlT).trans c5
    have HBr := Lib.hid (below_then HB.out hb)
    have hk0 : (0 : Int) ≤ (k : Int) := Int.natCast_nonneg _
    by_cases hlt : k < t.ns.length
    · have hk1 : (k : Int) < (t.ns.length : Int) := by omega
      have hiw : IntKind.i64.wrap ((k : Int) + 1) = ((k + 1 : Nat) : Int) := by rw [IntWalk.i64_in _ (by omega)]; omega
      have hkp : k < ps.length := by have := HLN.out; omega
      obtain ⟨b1, o1, hna, hb1, -, cc⟩ := rowCell8 Nd.len (by decide) (HA.out.below hb) hlt
      have c14 := cc 14 _ rfl
      have hnk : t.ns[k] = ps[k].1 := by simp only [HNS.out, List.getElem_map]
      have hmem := List.getElem_mem hkp
      have hen := (HE.out _ hmem).1
      have hgl := le_max22 (HG.out _ hmem).2.2.2.2.2
      rw [hnk, hen] at c14
      rw [hna] at c5
      have KN := Lib.hid (large20_any ps[k].1.ea ps[k].1.ec ps[k].2 wr (by omega) ((HE.out _ hmem).2.below hb))
      have HNX := Lib.hid (fun (h : ps[k].2.length ≤ 70 ∧ ∀ x ∈ ps[k].2, x.name.length ≤ 300) => (show ∀ q ∈ ps.take (k + 1), q.2.length ≤ 70 ∧ ∀ x ∈ q.2, x.name.length ≤ 300 by
        intro q hq
        rw [take_next _ _ hkp] at hq
        rcases List.mem_append.1 hq with hq | hq
        · exact hok q hq
        · simp only [List.mem_singleton] at hq
          subst hq
          exact h))
      have HBb := Lib.hid hb
      generalize ps[k] = p at *
      clear cc hok hb hna hnk hmem hen hgl
      go_wp2_with fail
      refine KN.out.mono ?_
      rintro e w4 ⟨b, rfl, hf, hb4⟩
      have HB4 := Lib.hid (HBb.out.trans (hb4.mono HBb.out.size))
      have HF4 := Lib.hid (below_then HBr.out hb4)
      clear hb4
      cases b
      case true =>
        go_wp2
        go_ret
        exact SaysL.yes HF4.out
      have HN := Lib.hid (HNX.out (hf rfl))
      clear hf
      go_wp2
      go_roundw
      case rel => first
        | exact ⟨k + 1, by omega, by first | rfl | go_num, HN.out, HB4.out⟩
        | (repeat apply Exists.intro
           refine ⟨?_, rfl⟩
           exact ⟨k + 1, by omega, by first | rfl | go_num, HN.out, HB4.out⟩)
      case measure => simp [intOf]; omega
    · obtain rfl : k = t.ns.length := by omega
      have hlm : ¬ (t.ns.length : Int) < (t.ns.length : Int) := by omega
      have HY := Lib.hid (show FewT ps from ⟨by rw [← HNS.out]; exact HS.out, by rw [List.take_of_length_le (by have := HLN.out; omega)] at hok; exact hok⟩)
      clear hok hb
      go_wp2
      go_ret
      exact SaysL.no HY.out HBr.out
end Go.Proofs.YtgifmpobokaejaaGreatDoor


/-
  Layer 22: a tree that came in, with what the laws know of it. No condition.
-/
namespace Go.Proofs.YtgifmpobokaejaaGreatDoor
open Go.RowKit

/-- a tree that came in, with what the laws know of it -/
structure OpenT (w : World) (t : Tr) (ps : List (Nd × List Entry)) : Prop where
  ns : t.ns = ps.map (·.1)
  len : ps.length ≤ maxLen
  at_ : At w 15 t.na (t.ns.map Nd.vals)
  ents : Ents w ps
  good : ∀ p ∈ ps, p.1.good
theorem OpenT.below {w w' : World} {t : Tr} {ps : List (Nd × List Entry)} (h : OpenT w t ps) (hb : Below w.heap.size w w') : OpenT w' t ps := ⟨h.ns, h.len, h.at_.below hb, h.ents.below hb, h.good⟩
theorem OpenT.tree {w : World} {t : Tr} {ps : List (Nd × List Entry)} (h : OpenT w t ps) (hf : FewT ps) : TreeH w t ps :=
  ⟨h.ns, h.at_, h.ents, by rw [h.ns]; exact hf.1, hf.2, fun m hm => by
    rw [h.ns] at hm
    obtain ⟨p, hp, rfl⟩ := List.mem_map.1 hm
    exact (Go.bounds_i64 (h.good p hp).1.2.2.2.2.2.2.2.1).2⟩
end Go.Proofs.YtgifmpobokaejaaGreatDoor
