/-
  Layer 22, walks: how the document looks whether a tree may be. Conditions: a tree that is not too large.
-/
import Derived.Test.YtgifmpobokaejaaGreatDoorF41
import Derived.Test.YtgifmpobokaejaaGreatDoorF08
namespace Go.Proofs.YtgifmpobokaejaaGreatDoor
open Go.RowKit
open Go.RowKit
attribute [local go_sem ↓] Go.wp_at_zero Go.wp_at_succ
attribute [local go_sem] rowAt_ptr rowOf_drew rowOf_drewN rowOf_alloc_past rowOf_new
attribute [local go_sem ↓] ldNode22 ldTree22 ldAttrR ldEntry

theorem ldLim22 {ρ : Operand → Value} {w : World} {dst : Option Tmp} {ty : TypeId} {pos : String} {after : Array Edge} {g : Option (Nat × Bool)} {x : Operand} (h : (rowAt w 3 (ρ x)).isSome = true) :
    (execOp ρ ⟨dst, .load 23 x, ty, pos, after, g⟩).run Tryz.prog w = .ok (.value (.agg ((rowAt w 3 (ρ x)).getD #[]))) w := ex_load 23 3 Tryz.underlying23 rfl (by kernel_rfl) h
attribute [local go_sem ↓] ldLim22

/-- what a node of a tree that may be has -/
def NodF (ns : List Nd) (p : Nd × List Entry) : Prop := p.1.attr.ok = true ∧ 1 ≤ p.1.attr.gen ∧ p.1.attr.size = (p.1.data.size : Int) ∧ (p.1.attr.type = 2 → DirF ns p.1 p.2) ∧ (p.1.attr.type ≠ 2 → OthF p.1 p.2)
/-- what a tree that may be has -/
def TreeF (t : Tr) (ps : List (Nd × List Entry)) : Prop := t.lim.ok = true ∧ ∀ p ∈ ps, NodF t.ns p
def SaysT (t : Tr) (ps : List (Nd × List Entry)) (w : World) (e : Ending) (w' : World) : Prop := ∃ b, e = .returned (.bool b) ∧ (b = true → TreeF t ps) ∧ Below w.heap.size w w'
theorem SaysT.no {t : Tr} {ps : List (Nd × List Entry)} {w w' : World} (hb : Below w.heap.size w w') : SaysT t ps w (.returned (.bool false)) w' := ⟨false, rfl, (fun h => by cases h), hb⟩
theorem SaysT.yes {t : Tr} {ps : List (Nd × List Entry)} {w w' : World} (h : TreeF t ps) (hb : Below w.heap.size w w') : SaysT t ps w (.returned (.bool true)) w' := ⟨true, rfl, (fun _ => h), hb⟩
theorem infoAttr22 : (Tryz.prog.info? 40).map (fun i => (i.zero, i.size)) = some (some (.agg attrZ.vals.toArray), 10) := by kernel_rfl
set_option maxRecDepth 20000 in
set_option maxHeartbeats 6400000 in
theorem refCheck22_any (t : Tr) (ps : List (Nd × List Entry)) (w : World) (hT : TreeH w t ps) (hg : ∀ p ∈ ps, p.1.good) :
    Calls Tryz.prog 9 #[t.val] w (SaysT t ps w) := by
  have bT := Blk.new w 26 t.vals
  have hB : Below w.heap.size w (w.alloc (.cells t.vals.toArray 26)) := (Below.refl _ _).alloc (Nat.le_refl _) _
  obtain ⟨w1, hw1⟩ : ∃ V, V = w.alloc (.cells t.vals.toArray 26) := ⟨_, rfl⟩
  rw [← hw1] at bT hB
  have c5 : w1.cell? ⟨w.heap.size, 5, none⟩ = some (.slice t.na t.ns.length t.nc) := bT.cell 5
  have c2 : w1.cell? ⟨w.heap.size, 2, none⟩ = some (.int .i64 t.lim.nodes) := bT.cell 2
  have c3 : w1.cell? ⟨w.heap.size, 3, none⟩ = some (.int .i64 t.now) := bT.cell 3
  have c4 : w1.cell? ⟨w.heap.size, 4, none⟩ = some (.int .i64 t.gens) := bT.cell 4
  have rL : rowOf w1 w.heap.size 0 3 = some t.lim.vals.toArray := bT.row 0 3 (by rw [Tr.len]; omega)
  have rT : rowOf w1 w.heap.size 0 6 = some t.vals.toArray := bT.row 0 6 (by rw [Tr.len]; omega)
  have hlT := bT.lt
  have HW1 := Lib.hid hw1
  have HT := Lib.hid (hT.below hB)
  have HG := Lib.hid hg
  have KL := Lib.hid (fun W => refCheck_any t.lim W)
  have HB := Lib.hid hB
  have hlen := hT.few.1
  clear hw1 bT hT hB hg
  unfold Tr.val
  go_enter Tryz.func9, Tryz.ntmps9
  go_upto_region 1 with fail
  change Code.wp _ _ _ _ (w.alloc (.cells t.vals.toArray 26))
  rw [← HW1.out]
  go_wp2_with fail
  refine (KL.out _).mono ?_
  rintro e w2 ⟨rfl, hb⟩
  replace c2 := (hb.cell (p := ⟨w.heap.size, 2, none⟩) hlT).trans c2
  replace c3 := (hb.cell (p := ⟨w.heap.size, 3, none⟩) hlT).trans c3
  replace c4 := (hb.cell (p := ⟨w.heap.size, 4, none⟩) hlT).trans c4
  replace c5 := (hb.cell (p := ⟨w.heap.size, 5, none⟩) hlT).trans c5
  replace rT := (rowOf_below hb hlT 0 6).trans rT
  have hlT2 := Nat.lt_of_lt_of_le hlT hb.size
  have HF := Lib.hid (show Below w.heap.size w w2 from below_then HB.out hb)
  have HT2 := Lib.hid (HT.out.below hb)
  clear hb rL hlT HT HB HW1
  cases hlo : t.lim.ok
  case false =>
    go_wp2
    go_ret
    exact SaysT.no HF.out
  have HLO := Lib.hid hlo
  clear hlo
  go_wp2
  all_goals first | (go_ret; exact SaysT.no HF.out) | skip
  have HTr := Lib.hid (And.intro c3 (And.intro c4 (And.intro c5 rT)))
  clear c2 c3 c4 c5 rT
  go_loopw [3] (fun i wr => ∃ k : Nat, k ≤ t.ns.length ∧ i = .int .i64 k ∧ (∀ p ∈ ps.take k, NodF t.ns p) ∧ Below w2.heap.size w2 wr) (fun i _ => t.ns.length - (intOf i).toNat)
  case atStart => exact ⟨0, Nat.zero_le _, rfl, (by simp), Below.refl _ _⟩
  case round =>
    obtain ⟨k, hk, rfl, hok, hb⟩ := hrel
    obtain ⟨c3, c4, c5, rT⟩ := HTr.out
    replace c3 := (hb.cell (p := ⟨w.heap.size, 3, none⟩) hlT2).trans c3
    replace c4 := (hb.cell (p := ⟨w.heap.size, 4, none⟩) hlT2).trans c4
    replace c5 := (hb.cell (p := ⟨w.heap.size, 5, none⟩) hlT2).trans c5
    replace rT := (rowOf_below hb hlT2 0 6).trans rT
    have hlT3 := Nat.lt_of_lt_of_le hlT2 hb.size
    have hk0 : (0 : Int) ≤ (k : Int) := Int.natCast_nonneg _
    by_cases hlt : k < t.ns.length
    · have hk1 : (k : Int) < (t.ns.length : Int) := by omega
      have hiw : IntKind.i64.wrap ((k : Int) + 1) = ((k + 1 : Nat) : Int) := by rw [IntWalk.i64_in _ (by omega)]; omega
      have hns := HT2.out.ns
      have hkp : k < ps.length := by rw [hns, List.length_map] at hlt; exact hlt
      obtain ⟨p, hp⟩ : ∃ p, p = ps[k] := ⟨_, rfl⟩
      have hpm : p ∈ ps := hp ▸ List.getElem_mem hkp
      have hnk : t.ns[k] = p.1 := by rw [hp]; simp only [hns, List.getElem_map]
      have HNX := Lib.hid (fun (h : NodF t.ns p) => (show ∀ q ∈ ps.take (k + 1), NodF t.ns q by
        intro q hq
        rw [take_next _ _ hkp] at hq
        rcases List.mem_append.1 hq with hq | hq
        · exact hok q hq
        · simp only [List.mem_singleton] at hq
          subst hq
          rw [← hp]
          exact h))
      obtain ⟨nd, es⟩ := p
      simp only at hnk
      obtain ⟨b1, o1, hna, hb1, rn, -⟩ := rowCell8 Nd.len (by decide) ((HT2.out.below hb).at_) hlt
      rw [hnk] at rn
      rw [hna] at c5
      have hen := (HT2.out.ents _ hpm).1
      have hE := (HT2.out.ents _ hpm).2
      have hrw := HT2.out.rows _ hpm
      have hdl : (dataL nd).length ≤ 1048576 := by
        have h1 : nd ∈ t.ns := by rw [hns]; exact List.mem_map_of_mem hpm
        have := HT2.out.few.2 _ h1
        rw [dataL_len]
        omega
      simp only at hen hE hrw
      have KC := Lib.hid (fun W => refCheck5_any nd.attr W)
      have KD := Lib.hid (fun W (h : Below w2.heap.size w2 W) => refDirectory_any t ps nd es W (HT2.out.below h) hen hrw.1 hrw.2 (hE.below h))
      have KO := Lib.hid (fun W (h : Below w2.heap.size w2 W) => refOther_any t ps nd es W (HT2.out.below h) hen hdl)
      have HAt := Lib.hid (fun W (h : Below w2.heap.size w2 W) (j : Nat) (hj : j < t.ns.length) => (show (∀ q u, (t.ns[j].vals)[q]? = some u → W.cell? ⟨b1, o1 + j * 15 + q, none⟩ = some u) by
        obtain ⟨b2, o2, hna2, -, -, cc⟩ := rowCell8 Nd.len (by decide) ((HT2.out.below h).at_) hj
        rw [hna] at hna2
        injection hna2 with h1
        injection h1 with h2 h3 h4
        subst h2 h3
        exact cc))
      have HBr := Lib.hid hb
      have bN := Blk.new wr 65 nd.vals
      have hbN : Below wr.heap.size wr (wr.alloc (.cells nd.vals.toArray 65)) := (Below.refl _ _).alloc (Nat.le_refl _) _
      clear hok hb hp hpm hnk hna hen hE hrw hdl hns hkp
      unfold Tr.val at KD KO
      go_upto_region 7 with (first | (refine wpList_new_struct (by rfl) (by rfl) 65 (by rfl) _ _ (by rfl) nd.vals infoNode (by rfl) (by rfl) (Nd.one _) (by rfl) (by rfl) ?_) | fail)
      generalize wr.alloc (.cells nd.vals.toArray 65) = w5 at *
      have rA : rowOf w5 wr.heap.size 0 10 = some nd.attr.vals.toArray := bN.row 0 10 (by rw [Nd.len]; omega)
      have bA := Blk.new w5 40 nd.attr.vals
      have hbA : Below w5.heap.size w5 (w5.alloc (.cells nd.attr.vals.toArray 40)) := (Below.refl _ _).alloc (Nat.le_refl _) _
      go_upto_region 8 with (first | (refine wpList_new_struct (by rfl) (by rfl) 40 (by rfl) _ _ (by rfl) nd.attr.vals infoAttr22 (by rfl) (by rfl) (Attr.one _) (by rfl) (by rfl) ?_) | fail)
      replace bN := bN.stays hbA
      have hbw6 := below_then hbN hbA
      generalize w5.alloc (.cells nd.attr.vals.toArray 40) = w6 at *
      have rA6 : rowOf w6 w5.heap.size 0 10 = some nd.attr.vals.toArray := bA.row 0 10 (by rw [Attr.len]; omega)
      clear rn rA hbN hbA
      go_wp2_with fail
      refine (KC.out _).mono ?_
      rintro e w7 ⟨rfl, hb⟩
      replace bN := bN.stays hb
      replace bA := bA.stays hb
      have hb7 := below_then hbw6 hb
      replace c3 := (hb7.cell (p := ⟨w.heap.size, 3, none⟩) hlT3).trans c3
      replace c4 := (hb7.cell (p := ⟨w.heap.size, 4, none⟩) hlT3).trans c4
      replace c5 := (hb7.cell (p := ⟨w.heap.size, 5, none⟩) hlT3).trans c5
      replace rT := (rowOf_below hb7 hlT3 0 6).trans rT
      have a0 : w7.cell? ⟨w5.heap.size, 0, none⟩ = some (.int .i64 nd.attr.type) := bA.cell 0
      have a5 : w7.cell? ⟨w5.heap.size, 5, none⟩ = some (.int .i64 nd.attr.size) := bA.cell 5
      have a6 : w7.cell? ⟨w5.heap.size, 6, none⟩ = some (.int .i64 nd.attr.id) := bA.cell 6
      have a7 : w7.cell? ⟨w5.heap.size, 7, none⟩ = some (.int .i64 nd.attr.gen) := bA.cell 7
      have a8 : w7.cell? ⟨w5.heap.size, 8, none⟩ = some (.int .i64 nd.attr.change) := bA.cell 8
      have d10 : w7.cell? ⟨wr.heap.size, 10, none⟩ = some (.string nd.data) := bN.cell 10
      have rN : rowOf w7 wr.heap.size 0 15 = some nd.vals.toArray := bN.row 0 15 (by rw [Nd.len]; omega)
      have hlA7 := bA.lt
      have hlN7 := bN.lt
      have hlT7 := Nat.lt_of_lt_of_le hlT3 hb7.size
      have HB7 := Lib.hid (HBr.out.trans (hb7.mono HBr.out.size))
      have HF7 := Lib.hid (show Below w.heap.size w w7 from below_then HF.out HB7.out)
      clear hb hb7 hbw6 bN bA rA6 KC
      have HNF := Lib.hid (show (nd.attr.ok = true ∧ 1 ≤ nd.attr.gen ∧ nd.attr.size = (nd.data.size : Int) ∧ (nd.attr.type = 2 → DirF t.ns nd es) ∧ (nd.attr.type ≠ 2 → OthF nd es)) → NodF t.ns (nd, es) from fun h => h)
      cases hok5 : nd.attr.ok
      case false =>
        go_wp2
        go_ret
        exact SaysT.no HF7.out
      by_cases hg1 : nd.attr.gen < 1
      · go_wp2
        all_goals
          go_ret
          exact SaysT.no HF7.out
      by_cases hsz : nd.attr.size = (nd.data.size : Int)
      case neg =>
        have hsz1 : (nd.attr.size != (nd.data.size : Int)) = true := by simpa using hsz
        go_wp2
        all_goals
          go_ret
          exact SaysT.no HF7.out
      replace HNF := Lib.hid (fun h1 h2 => HNF.out ⟨hok5, by omega, hsz, h1, h2⟩)
      clear hok5
      have hsz1 : (nd.attr.size != (nd.data.size : Int)) = false := by simpa using hsz
      clear hsz
      generalize nd.attr.type = ty at *
      generalize nd.attr.gen = gn at *
      generalize nd.attr.id = id at *
      generalize nd.attr.size = sz at *
      generalize nd.attr.change = cg at *
      go_wp2_with fail
      all_goals first | (go_ret; exact SaysT.no HF7.out) | skip
      clear c3 c4 a5 a8 d10 hsz1
      have hsplit : (k = 0 ∧ (gn ≠ 1 ∨ ty ≠ 2)) ∨ (k = 0 ∧ gn = 1 ∧ ty = 2) ∨ (∃ h : 0 < k, gn ≤ (t.ns[k - 1]'(by omega)).attr.gen) ∨ (∃ h : 0 < k, ¬ gn ≤ (t.ns[k - 1]'(by omega)).attr.gen) := by
        by_cases h1 : k = 0
        · by_cases h2 : gn = 1
          · by_cases h3 : ty = 2
            · exact .inr (.inl ⟨h1, h2, h3⟩)
            · exact .inl ⟨h1, .inr h3⟩
          · exact .inl ⟨h1, .inl h2⟩
        · by_cases h2 : gn ≤ (t.ns[k - 1]'(by omega)).attr.gen
          · exact .inr (.inr (.inl ⟨by omega, h2⟩))
          · exact .inr (.inr (.inr ⟨by omega, h2⟩))
      have hprev : ∀ (h : 0 < k), w7.cell? ⟨b1, o1 + (k - 1) * 15 + 7, none⟩ = some (.int .i64 (t.ns[k - 1]'(by omega)).attr.gen) := fun h => HAt.out w7 HB7.out (k - 1) (by omega) 7 _ rfl
      rcases hsplit with ⟨h1, h2⟩ | hgood
      · have hz0 : ((k : Int) == 0) = true := by simp [h1]
        rcases h2 with h2 | h2
        · have h2' : (gn != 1) = true := by simpa using h2
          clear hprev
          go_quiet (fail)
          go_wp2
          go_ret
          exact SaysT.no (bdN HF7.out _)
        · have h2' : (ty != 2) = true := by simpa using h2
          clear hprev
          by_cases h3 : gn = 1
          · have h3' : (gn != 1) = false := by simpa using h3
            go_quiet (fail)
            go_wp2
            go_ret
            exact SaysT.no (bdN HF7.out _)
          · have h3' : (gn != 1) = true := by simpa using h3
            go_quiet (fail)
            go_wp2
            go_ret
            exact SaysT.no (bdN HF7.out _)
      rcases hgood with ⟨h1, h2, h3⟩ | ⟨h, hB⟩ | ⟨h, hC⟩
      · have hz0 : ((k : Int) == 0) = true := by simp [h1]
        have hz1 : ¬ (0 : Int) < (k : Int) := by omega
        have hz2 : ¬ 0 < k := by omega
        have h2' : (gn != 1) = false := by simpa using h2
        have h3' : (ty != 2) = false := by simpa using h3
        have H3 := Lib.hid h3
        clear hprev h1 h2 h3
        go_quiet (fail)
        go_wp2
        go_loopw [6] (fun j V => ∃ m : Nat, m ≤ k ∧ j = .int .i64 m ∧ Below w7.heap.size w7 V) (fun j _ => k - (intOf j).toNat)
        case atStart => exact ⟨0, Nat.zero_le _, rfl, bdN (Below.refl _ _) _⟩
        case round =>
          rename_i V _
          obtain ⟨m, hm, rfl, hbV⟩ := hrel
          have HBV := Lib.hid (HB7.out.trans (hbV.mono HB7.out.size))
          have HFV := Lib.hid (show Below w.heap.size w _ from below_then HF.out HBV.out)
          have hm0 : (0 : Int) ≤ (m : Int) := Int.natCast_nonneg _
          replace c5 := (hbV.cell (p := ⟨w.heap.size, 5, none⟩) hlT7).trans c5
          replace a0 := (hbV.cell (p := ⟨w5.heap.size, 0, none⟩) hlA7).trans a0
          replace a6 := (hbV.cell (p := ⟨w5.heap.size, 6, none⟩) hlA7).trans a6
          replace rT := (rowOf_below hbV hlT7 0 6).trans rT
          replace rN := (rowOf_below hbV hlN7 0 15).trans rN
          clear a7
          have HbV := Lib.hid hbV
          clear hbV
          by_cases hmk : m < k
          · have hm1 : (m : Int) < (k : Int) := by omega
            have hm2 : (m : Int) < (t.ns.length : Int) := by omega
            have him : IntKind.i64.wrap ((m : Int) + 1) = ((m + 1 : Nat) : Int) := by rw [IntWalk.i64_in _ (by omega)]; omega
            have hid6 := HAt.out _ HBV.out m (by omega) 6 _ rfl
            by_cases hid : (t.ns[m]'(by omega)).attr.id = id
            · rw [hid] at hid6
              go_wp2_with fail
              go_quiet (fail)
              go_wp2
              go_ret
              exact SaysT.no (bdN HFV.out _)
            · have hid2 : ((t.ns[m]'(by omega)).attr.id == id) = false := by simpa using hid
              go_wp2_with fail
              go_quiet (fail)
              go_wp2
              go_roundw
              case rel => exact ⟨m + 1, by omega, by first | rfl | go_num, bdN HbV.out _⟩
              case measure => simp [intOf]; omega
          · obtain rfl : m = k := by omega
            have hmm : ¬ (m : Int) < (m : Int) := by omega
            by_cases ht : ty = 2
            · subst ht
              go_wp2_with fail
              refine (KD.out _ HBV.out).mono ?_
              rintro e w9 ⟨b, rfl, hd, hb9⟩
              replace a0 := (hb9.cell (p := ⟨w5.heap.size, 0, none⟩) (Nat.lt_of_lt_of_le hlA7 HbV.out.size)).trans a0
              have HB9 := Lib.hid (HBV.out.trans (hb9.mono HBV.out.size))
              have HF9 := Lib.hid (show Below w.heap.size w w9 from below_then HF.out HB9.out)
              clear hb9
              cases b
              case false =>
                go_wp2
                go_ret
                exact SaysT.no HF9.out
              have HN := Lib.hid (HNX.out (HNF.out (fun _ => hd rfl) (fun h => absurd rfl h)))
              clear hd
              go_wp2
              go_roundw
              case rel => first
                | exact ⟨m + 1, by omega, by first | rfl | go_num, HN.out, HB9.out⟩
                | (repeat apply Exists.intro
                   refine ⟨?_, rfl⟩
                   exact ⟨m + 1, by omega, by first | rfl | go_num, HN.out, HB9.out⟩)
              case measure => simp [intOf]; omega
            · exact absurd H3.out ht
      · have hz0 : ((k : Int) == 0) = false := by simp; omega
        have hz1 : (0 : Int) < (k : Int) := by omega
        have hwk : IntKind.i64.wrap ((k : Int) - 1) = ((k - 1 : Nat) : Int) := by rw [IntWalk.i64_in _ (by omega)]; omega
        have hp0 : (0 : Int) ≤ ((k - 1 : Nat) : Int) := Int.natCast_nonneg _
        have hp1 : ((k - 1 : Nat) : Int) < (t.ns.length : Int) := by omega
        have hpc := hprev h
        clear hprev
        go_quiet (fail)
        go_wp2
        go_ret
        exact SaysT.no (bdN HF7.out _)
      · have hz0 : ((k : Int) == 0) = false := by simp; omega
        have hz1 : (0 : Int) < (k : Int) := by omega
        have hwk : IntKind.i64.wrap ((k : Int) - 1) = ((k - 1 : Nat) : Int) := by rw [IntWalk.i64_in _ (by omega)]; omega
        have hp0 : (0 : Int) ≤ ((k - 1 : Nat) : Int) := Int.natCast_nonneg _
        have hp1 : ((k - 1 : Nat) : Int) < (t.ns.length : Int) := by omega
        have hpc := hprev h
        generalize (t.ns[k - 1]'(by omega)).attr.gen = pg at *
        clear hprev
        go_quiet (fail)
        clear hpc hC h
        go_wp2
        go_loopw [6] (fun j V => ∃ m : Nat, m ≤ k ∧ j = .int .i64 m ∧ Below w7.heap.size w7 V) (fun j _ => k - (intOf j).toNat)
        case atStart => exact ⟨0, Nat.zero_le _, rfl, bdN (Below.refl _ _) _⟩
        case round =>
          rename_i V _
          obtain ⟨m, hm, rfl, hbV⟩ := hrel
          have HBV := Lib.hid (HB7.out.trans (hbV.mono HB7.out.size))
          have HFV := Lib.hid (show Below w.heap.size w _ from below_then HF.out HBV.out)
          have hm0 : (0 : Int) ≤ (m : Int) := Int.natCast_nonneg _
          replace c5 := (hbV.cell (p := ⟨w.heap.size, 5, none⟩) hlT7).trans c5
          replace a0 := (hbV.cell (p := ⟨w5.heap.size, 0, none⟩) hlA7).trans a0
          replace a6 := (hbV.cell (p := ⟨w5.heap.size, 6, none⟩) hlA7).trans a6
          replace rT := (rowOf_below hbV hlT7 0 6).trans rT
          replace rN := (rowOf_below hbV hlN7 0 15).trans rN
          clear a7
          have HbV := Lib.hid hbV
          clear hbV
          by_cases hmk : m < k
          · have hm1 : (m : Int) < (k : Int) := by omega
            have hm2 : (m : Int) < (t.ns.length : Int) := by omega
            have him : IntKind.i64.wrap ((m : Int) + 1) = ((m + 1 : Nat) : Int) := by rw [IntWalk.i64_in _ (by omega)]; omega
            have hid6 := HAt.out _ HBV.out m (by omega) 6 _ rfl
            by_cases hid : (t.ns[m]'(by omega)).attr.id = id
            · rw [hid] at hid6
              go_wp2_with fail
              go_quiet (fail)
              go_wp2
              go_ret
              exact SaysT.no (bdN HFV.out _)
            · have hid2 : ((t.ns[m]'(by omega)).attr.id == id) = false := by simpa using hid
              go_wp2_with fail
              go_quiet (fail)
              go_wp2
              go_roundw
              case rel => exact ⟨m + 1, by omega, by first | rfl | go_num, bdN HbV.out _⟩
              case measure => simp [intOf]; omega
          · obtain rfl : m = k := by omega
            have hmm : ¬ (m : Int) < (m : Int) := by omega
            by_cases ht : ty = 2
            · subst ht
              go_wp2_with fail
              refine (KD.out _ HBV.out).mono ?_
              rintro e w9 ⟨b, rfl, hd, hb9⟩
              replace a0 := (hb9.cell (p := ⟨w5.heap.size, 0, none⟩) (Nat.lt_of_lt_of_le hlA7 HbV.out.size)).trans a0
              have HB9 := Lib.hid (HBV.out.trans (hb9.mono HBV.out.size))
              have HF9 := Lib.hid (show Below w.heap.size w w9 from below_then HF.out HB9.out)
              clear hb9
              cases b
              case false =>
                go_wp2
                go_ret
                exact SaysT.no HF9.out
              have HN := Lib.hid (HNX.out (HNF.out (fun _ => hd rfl) (fun h => absurd rfl h)))
              clear hd
              go_wp2
              go_roundw
              case rel => first
                | exact ⟨m + 1, by omega, by first | rfl | go_num, HN.out, HB9.out⟩
                | (repeat apply Exists.intro
                   refine ⟨?_, rfl⟩
                   exact ⟨m + 1, by omega, by first | rfl | go_num, HN.out, HB9.out⟩)
              case measure => simp [intOf]; omega
            · have ht1 : (ty == 2) = false := by simpa using ht
              have ht2 : (ty != 2) = true := by simpa using ht
              go_wp2_with fail
              refine (KO.out _ HBV.out).mono ?_
              rintro e w9 ⟨b, rfl, hd, hb9⟩
              replace a0 := (hb9.cell (p := ⟨w5.heap.size, 0, none⟩) (Nat.lt_of_lt_of_le hlA7 HbV.out.size)).trans a0
              have HB9 := Lib.hid (HBV.out.trans (hb9.mono HBV.out.size))
              have HF9 := Lib.hid (show Below w.heap.size w w9 from below_then HF.out HB9.out)
              clear hb9
              cases b
              case false =>
                go_wp2
                go_ret
                exact SaysT.no HF9.out
              have HN := Lib.hid (HNX.out (HNF.out (fun h => absurd h ht) (fun _ => hd rfl)))
              clear hd
              go_wp2
              go_roundw
              case rel => first
                | exact ⟨m + 1, by omega, by first | rfl | go_num, HN.out, HB9.out⟩
                | (repeat apply Exists.intro
                   refine ⟨?_, rfl⟩
                   exact ⟨m + 1, by omega, by first | rfl | go_num, HN.out, HB9.out⟩)
              case measure => simp [intOf]; omega
    · obtain rfl : k = t.ns.length := by omega
      have hlm : ¬ (t.ns.length : Int) < (t.ns.length : Int) := by omega
      have HY := Lib.hid (show TreeF t ps from ⟨HLO.out, by
        have hns := HT2.out.ns
        rw [List.take_of_length_le (by have h9 := congrArg List.length hns; rw [List.length_map] at h9; omega)] at hok
        exact hok⟩)
      have HFr := Lib.hid (show Below w.heap.size w wr from below_then HF.out hb)
      clear hok hb
      go_wp2
      go_ret
      exact SaysT.yes HY.out HFr.out
end Go.Proofs.YtgifmpobokaejaaGreatDoor
