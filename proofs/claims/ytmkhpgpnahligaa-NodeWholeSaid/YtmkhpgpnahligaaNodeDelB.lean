/-
  Layer 20, walks: slices.DeleteFunc of the entries whose Cookie is at most one, in a row of the call's own. Conditions: lengths.
-/
import Derived.Test.YtmkhpgpnahligaaNodeDelA
import Derived.Test.YtmkhpgpnahligaaRowSet
import Derived.Test.YtmkhpgpnahligaaRowClone
namespace Go.Proofs.Ytmkhpgpnahligaa
open Go.RowKit
attribute [local go_sem ↓] Go.wp_at_zero Go.wp_at_succ
attribute [local go_sem] rowAt_ptr rowOf_drew rowOf_drewN rowOf_alloc_past rowOf_new
attribute [local go_sem ↓] ldEntry

attribute [local go_sem] Entry.at0 Entry.lat0 Entry.at1 Entry.lat1 Entry.at2 Entry.lat2 Entry.at3 Entry.lat3 Entry.at4 Entry.lat4 Entry.at5 Entry.lat5 Entry.at6 Entry.lat6 Entry.at7 Entry.lat7 Entry.at8 Entry.lat8 Entry.at9 Entry.lat9 Entry.at10 Entry.lat10 Entry.at11 Entry.lat11 Entry.at12 Entry.lat12 Entry.at13 Entry.lat13 Entry.at14 Entry.lat14 Entry.sub0_15 Entry.lsub0_15 Entry.sub3_11 Entry.lsub3_11 Entry.sub4_10 Entry.lsub4_10 Entry.len

/-- the entries behind a Cookie -/
def behind (ck : Int) (l : List Entry) : List Entry := l.filter fun x => !decide (x.cookie ≤ ck)

theorem At.midRow {w : World} {sz : Nat} {A : Option Addr} {R S : List (List Value)} {r : List Value} (h : At w sz A (R ++ r :: S)) (hr : r.length = sz) (h0 : 0 < sz) :
    ∃ b off, A = some ⟨b, off, none⟩ ∧ b < w.heap.size ∧ rowOf w b (off + R.length * sz) sz = some r.toArray := by
  have hk : R.length < (R ++ r :: S).length := by simp
  obtain ⟨b, off, hA, hb, hc⟩ := h.range hk
  have e : (R ++ r :: S)[R.length] = r := by simp
  rw [e] at hc
  exact ⟨b, off, hA, hb, rowOf_of hc hr h0⟩

theorem RowS.thereRow {w : World} {B g cap n sz : Nat} {T : TypeId} {rows : List (List Value)} (h : RowS w B T sz (.slice (some ⟨g, 0, none⟩) n cap) rows) (hn : n = rows.length) (i k : Nat) (hk : i * sz + k ≤ n * sz) : w.there g (i * sz) k := by
  intro j hj
  have hown := h.2
  rw [← hn] at hown
  refine ⟨?_, hown.frozenAt _⟩
  rw [hown.cellAt _ (by omega)]
  rw [List.getElem?_eq_getElem (by have := hown.1; omega)]
  rfl

theorem behind_take {ck : Int} {l : List Entry} {k : Nat} (hk : k < l.length) : behind ck (l.take (k + 1)) = behind ck (l.take k) ++ if decide (l[k].cookie ≤ ck) then [] else [l[k]] := by
  unfold behind
  rw [take_next _ _ hk, List.filter_append]
  cases h : decide (l[k].cookie ≤ ck) <;> simp [h]

theorem firstLe_before {ck : Int} {l : List Entry} {j : Nat} (h : j < firstLe ck l) (hj : j < l.length) : decide (l[j].cookie ≤ ck) = false := by
  have h2 : j < l.findIdx fun x => decide (x.cookie ≤ ck) := h
  have := List.not_of_lt_findIdx h2
  simpa using this
theorem behind_first {ck : Int} {l : List Entry} (h : firstLe ck l < l.length) : behind ck (l.take (firstLe ck l + 1)) = l.take (firstLe ck l) := by
  have h1 : decide (l[firstLe ck l].cookie ≤ ck) = true := List.findIdx_getElem (w := h)
  rw [behind_take h, h1, if_pos rfl, List.append_nil]
  unfold behind
  rw [List.filter_eq_self]
  intro x hx
  obtain ⟨j, hj, rfl⟩ := List.getElem_of_mem hx
  rw [List.length_take] at hj
  rw [List.getElem_take, firstLe_before (by omega) (by omega)]
  rfl
theorem behind_none {ck : Int} {l : List Entry} (h : ¬ firstLe ck l < l.length) : behind ck l = l := by
  unfold behind
  rw [List.filter_eq_self]
  intro x hx
  obtain ⟨j, hj, rfl⟩ := List.getElem_of_mem hx
  rw [firstLe_before (by omega) hj]
  rfl

/-- a slice of no cells, or of cells in blocks from B on -/
def Fresh (B : Nat) (A : Option Addr) : Prop := ∀ p, A = some p → B ≤ p.block
/-- what DeleteFunc leaves -/
def DelPost (w : World) (B : Nat) (ck : Int) (l : List Entry) (e : Ending) (w' : World) : Prop :=
  ∃ A c, e = .returned (.slice A (behind ck l).length c) ∧ (behind ck l).length ≤ c ∧ At w' 15 A ((behind ck l).map Entry.vals) ∧ Below B w w' ∧ Fresh B A

theorem infoEntry2 : (Try.prog.info? 35).map (fun i => (i.zero, i.size)) = some (some (.agg (Entry.mk 0 [] 0 postZ8 []).vals.toArray), 15) := by kernel_rfl
/-- in DeleteFunc's loop: so many are kept (the first number), so many are looked at (the second) -/
def DelRel (w : World) (B g c : Nat) (ck : Int) (l : List Entry) (i j : Int) (W : World) : Prop :=
  ∃ (pre : List Entry) (mid : List (List Value)) (k : Nat), k ≤ l.length ∧ i = (pre.length : Int) ∧ j = (k : Int) ∧ pre = behind ck (l.take k) ∧ 0 < mid.length ∧ pre.length + mid.length = k ∧
    RowS W B 35 15 (.slice (some ⟨g, 0, none⟩) l.length c) (pre.map Entry.vals ++ (mid ++ (l.drop k).map Entry.vals)) ∧ Below B w W
theorem DelRel.stays {w W W' : World} {B g c : Nat} {ck : Int} {l : List Entry} {i j : Int} (h : DelRel w B g c ck l i j W) (hb : Below W.heap.size W W') (hB : B ≤ W.heap.size) : DelRel w B g c ck l i j W' := by
  obtain ⟨pre, mid, k, h1, h2, h3, h4, h5, h6, h7, h8⟩ := h
  exact ⟨pre, mid, k, h1, h2, h3, h4, h5, h6, h7.stays hb, h8.trans (hb.mono hB)⟩

set_option maxRecDepth 20000 in
set_option maxHeartbeats 3200000 in
theorem deleteLe_any (A : Option Addr) (c : Nat) (l : List Entry) (b : Nat) (ck : Int) (w : World) (B : Nat) (hl : l.length ≤ 1000000) (hR : RowS w B 35 15 (.slice A l.length c) (l.map Entry.vals)) (hB : B ≤ w.heap.size) (hb : b < B) (hc : w.cell? ⟨b, 0, none⟩ = some (.int .i64 ck)) :
    Calls Try.prog 24 #[.slice A l.length c, .func (.func 26) #[] #[.pointer (some ⟨b, 0, none⟩)]] w (DelPost w B ck l) := by
  have hcf := callPage1
  obtain ⟨A', c', hv, hAt⟩ := hR.at_
  injection hv with hA' hn' hc'
  subst hA' hc'
  clear hn'
  have HI := Lib.hid (indexLe_any A c l b ck w (by omega) hAt hc)
  by_cases hf : firstLe ck l < l.length
  case neg =>
    have hfl : foundLe ck l = -1 := by unfold foundLe; rw [if_neg hf]
    rw [hfl] at HI
    have hbe := behind_none hf
    have hFr : Fresh B A := fun p h => (hR.lt p.block (by rw [h]; rfl)).1
    have hcap : l.length ≤ c := by
      rcases hR.2.2 with ⟨h, h1⟩ | ⟨g, cap, cur, h, _, _, h2, _⟩
      · rw [List.length_map] at h1; omega
      · injection h with _ _ h; rw [List.length_map] at h2; omega
    have HQ := Lib.hid (fun (w2 : World) (hb2 : Below w.heap.size w w2) => (show DelPost w B ck l (.returned (.slice A l.length c)) w2 from ⟨A, c, by rw [hbe], by rw [hbe]; exact hcap, by rw [hbe]; exact hAt.below hb2, hb2.mono hB, hFr⟩))
    clear hAt hR hc hbe hfl hf hFr
    go_enter Try.func24, Try.ntmps24
    go_wp2_with fail
    refine HI.out.mono ?_
    rintro e w2 ⟨rfl, hb2⟩
    go_wp2
    go_ret
    exact HQ.out _ hb2
  have hfl : foundLe ck l = (firstLe ck l : Int) := by unfold foundLe; rw [if_pos hf]
  rw [hfl] at HI
  have hbf := behind_first hf
  obtain ⟨g, cap, hg, hcap, hv⟩ : ∃ g cap, B ≤ g ∧ l.length ≤ cap ∧ Value.slice A l.length c = .slice (some ⟨g, 0, none⟩) (l.map Entry.vals).length cap := by
    rcases hR.2.2 with ⟨_, h⟩ | ⟨g, cap, cur, hv, hg, _, h2, _⟩
    · rw [List.length_map] at h; omega
    · rw [List.length_map] at h2
      exact ⟨g, cap, hg, h2, hv⟩
  injection hv with hea hn2 hec
  clear hn2
  subst hea hec
  have hbw := World.block_lt_of_cell? w _ hc
  have hlr : ∀ r ∈ l.map Entry.vals, r.length = 15 := hR.1
  have H0 := Lib.hid (show DelRel w B g c ck l (firstLe ck l : Int) ((firstLe ck l : Int) + 1) w from ⟨l.take (firstLe ck l), [l[firstLe ck l].vals], firstLe ck l + 1, by omega, by rw [List.length_take]; omega, by omega, hbf.symm, by simp, by simp; omega, by
    have e2 : l.map Entry.vals = (l.take (firstLe ck l)).map Entry.vals ++ ([l[firstLe ck l].vals] ++ (l.drop (firstLe ck l + 1)).map Entry.vals) := by
      conv => lhs; rw [← List.take_append_drop (firstLe ck l) l, List.map_append, ← List.getElem_cons_drop hf]
      rfl
    rw [← e2]
    exact hR, Below.refl _ _ |>.mono hB⟩)
  clear hR hAt hbf hlr hfl
  have hkf : (firstLe ck l : Int) < (l.length : Int) := by omega
  generalize firstLe ck l = k0 at *
  go_enter Try.func24, Try.ntmps24
  go_wp2_with fail
  refine HI.out.mono ?_
  rintro e w1 ⟨rfl, hb1⟩
  have hk9 : (k0 : Int) ≠ -1 := by omega
  have hw9 : IntKind.i64.wrap ((k0 : Int) + 1) = (k0 : Int) + 1 := IntWalk.i64_in _ (by omega)
  have H1 := Lib.hid (H0.out.stays hb1 hB)
  clear HI H0
  go_wp2
  clear hw9 hk9 hf hkf
  go_loopw [5, 6] (fun i j wr => ∃ p q : Int, i = .int .i64 p ∧ j = .int .i64 q ∧ DelRel w B g c ck l p q wr) (fun _ j _ => l.length - (intOf j).toNat)
  case atStart => exact ⟨_, _, rfl, rfl, H1.out⟩
  case round =>
    clear H1
    obtain ⟨p, q, rfl, rfl, pre, mid, k, hk, rfl, rfl, hpre, hm, hpm, hRr, hBr⟩ := hrel
    have hcb := (hBr.cell (p := ⟨b, 0, none⟩) hb).trans hc
    have hgl : g < wr.heap.size := (hRr.lt g rfl).2
    by_cases hlk : k < l.length
    · have hsp : pre.map Entry.vals ++ (mid ++ (l.drop k).map Entry.vals) = (pre.map Entry.vals ++ mid) ++ l[k].vals :: (l.drop (k + 1)).map Entry.vals := by
        rw [← List.getElem_cons_drop hlk, List.map_cons, List.append_assoc]
      have hln : l.length = (pre.map Entry.vals ++ (mid ++ (l.drop k).map Entry.vals)).length := by simp; omega
      have hth := hRr.thereRow hln pre.length 15 (by have : (pre.length + 1) * 15 ≤ l.length * 15 := Nat.mul_le_mul_right _ (by omega); omega)
      have hR2 := hRr
      rw [hsp] at hR2
      obtain ⟨A', c', hv, hAt⟩ := hR2.at_
      injection hv with e1 e2 e3
      subst e1
      obtain ⟨b1, o1, e1, -, hrow⟩ := hAt.midRow rfl (by omega)
      injection e1 with e1
      injection e1 with e1 e4 _
      subst e1 e4
      have hpl : (pre.map Entry.vals ++ mid).length = k := by simp; omega
      rw [hpl, Nat.zero_add] at hrow
      have hBt := behind_take (ck := ck) hlk
      rw [← hpre] at hBt
      have HR := Lib.hid (And.intro hRr (And.intro hBr (And.intro hBt (And.intro hsp (And.intro hpm hm)))))
      have hZ := Blk.new wr 35 l[k].vals
      have hba : Below wr.heap.size wr (wr.alloc (.cells l[k].vals.toArray 35)) := (Below.refl _ _).alloc (Nat.le_refl _) _
      have HP := Lib.hid (page1_any l[k] b ck (wr.alloc (.cells l[k].vals.toArray 35)) ((hba.cell (p := ⟨b, 0, none⟩) (World.block_lt_of_cell? wr _ hcb)).trans hcb))
      have HA := Lib.hid (And.intro hZ (And.intro hba hth))
      have hk0 : (0 : Int) ≤ (k : Int) := Int.natCast_nonneg _
      have hk1 : (k : Int) < (l.length : Int) := by omega
      clear hRr hR2 hBr hpre hm hpm hsp hln hAt e2 e3 hpl hBt hZ hba hth hcb
      go_wp2_with (first | (refine wpList_new_struct (by rfl) (by rfl) 35 (by rfl) _ _ (by rfl) l[k].vals infoEntry2 (by rfl) (by rfl) (Entry.one _) (by rfl) (by rfl) ?_) | fail)
      refine HP.out.mono ?_
      rintro e w3 ⟨rfl, hb3⟩
      obtain ⟨hZ, hba, hth⟩ := HA.out
      obtain ⟨hRr, hBr, hBt, hsp, hpm, hm⟩ := HR.out
      have hb2 := below_then hba hb3
      have hk2 : IntKind.i64.wrap ((k : Int) + 1) = ((k + 1 : Nat) : Int) := by rw [IntWalk.i64_in _ (by omega)]; omega
      cases hd : decide (l[k].cookie ≤ ck) with
      | true =>
        rw [hd, if_pos rfl, List.append_nil] at hBt
        have HN := Lib.hid (show DelRel w B g c ck l (pre.length : Int) ((k + 1 : Nat) : Int) w3 from ⟨pre, mid ++ [l[k].vals], k + 1, by omega, rfl, rfl, hBt.symm, by simp, by simp; omega, by
          have hRs := hRr.stays hb2
          rw [hsp] at hRs
          have e : pre.map Entry.vals ++ (mid ++ [l[k].vals] ++ (l.drop (k + 1)).map Entry.vals) = (pre.map Entry.vals ++ mid) ++ l[k].vals :: (l.drop (k + 1)).map Entry.vals := by simp only [List.append_assoc, List.singleton_append]
          rw [e]
          exact hRs, hBr.trans (hb2.mono (by have := hBr.size; omega))⟩)
        clear hRr hBr hBt hsp hpm hm hb2 hb3 hZ hba hth hd HR HA HP
        go_wp2
        go_roundw
        case rel => refine ⟨_, _, _, _, _, _, _, _, _, _, _, _, _, _, _, _, _, _, _, _, _, _, _, ⟨_, _, ?_, ?_, HN.out⟩, rfl⟩ <;> rfl
        case measure => simp [intOf]; omega
      | false =>
        rw [hd, if_neg (by simp)] at hBt
        have hth3 : w3.there g (pre.length * 15) l[k].vals.length := by
          rw [Entry.len]
          exact fun j hj => ⟨by rw [hb2.cell (p := ⟨g, _, none⟩) hgl]; exact (hth j hj).1, by rw [hb2.frozen (p := ⟨g, _, none⟩) hgl]; exact (hth j hj).2⟩
        have hrv : rowOf w3 wr.heap.size 0 15 = some l[k].vals.toArray := (rowOf_below hb3 hZ.lt 0 15).trans (rowOf_of hZ.range (Entry.len _) (by omega))
        have hgb : g ≠ wr.heap.size := by omega
        obtain ⟨m, mid', rfl⟩ : ∃ m mid', mid = m :: mid' := by
          cases mid with
          | nil => simp at hm
          | cons m mid' => exact ⟨m, mid', rfl⟩
        have HN := Lib.hid (show DelRel w B g c ck l ((pre.length + 1 : Nat) : Int) ((k + 1 : Nat) : Int) (w3.setCells g (pre.length * 15) l[k].vals) from ⟨pre ++ [l[k]], mid' ++ [l[k].vals], k + 1, by omega, by simp, rfl, hBt.symm, by simp, by simp at hpm ⊢; omega, by
          have hRs := hRr.stays hb2
          have hp := RowS.put (pre := pre.map Entry.vals) (m := m) (post := mid' ++ (l.drop k).map Entry.vals) (r := l[k].vals) hRs rfl (by simp at hpm ⊢; omega)
          rw [List.length_map] at hp
          have e : (pre ++ [l[k]]).map Entry.vals ++ (mid' ++ [l[k].vals] ++ (l.drop (k + 1)).map Entry.vals) = pre.map Entry.vals ++ l[k].vals :: (mid' ++ (l.drop k).map Entry.vals) := by
            rw [← List.getElem_cons_drop hlk, List.map_cons]; simp
          rw [e]
          exact hp, hBr.trans (Below.setCells hg l[k].vals _ _ (hb2.mono (by have := hBr.size; omega)))⟩)
        have hpk : IntKind.i64.wrap ((pre.length : Int) + 1) = ((pre.length + 1 : Nat) : Int) := by rw [IntWalk.i64_in _ (by omega)]; omega
        have hpl0 : (0 : Int) ≤ (pre.length : Int) := Int.natCast_nonneg _
        have hpl1 : (pre.length : Int) < (l.length : Int) := by omega
        clear hRr hBr hBt hsp hpm hm hb2 hb3 hZ hba hth hd HR HA HP hrow
        generalize l[k] = x at *
        obtain ⟨w4, hw4⟩ : ∃ u, u = w3.setCells g (pre.length * 15) x.vals := ⟨_, rfl⟩
        rw [← hw4] at HN
        have HW4 := Lib.hid hw4
        clear hw4
        go_wp2_with (first | (refine wpList_store_there (by rfl) 35 _ _ (by rfl) g (pre.length * 15) x.vals hth3 (by rfl) (by rfl) (by kernel_rfl) (Entry.one _) ?_; rw [← HW4.out]) | fail)
        go_roundw
        case rel => refine ⟨_, _, _, _, _, _, _, _, _, _, _, _, _, _, _, _, _, _, _, _, _, _, _, ⟨_, _, ?_, ?_, HN.out⟩, rfl⟩ <;> rfl
        case measure => simp [intOf]; omega
    · obtain rfl : k = l.length := by omega
      rw [List.take_length] at hpre
      rw [List.drop_length, List.map_nil, List.append_nil] at hRr
      have hln : l.length = (pre.map Entry.vals ++ mid).length := by simp; omega
      have hth := hRr.thereRow hln pre.length ((l.length - pre.length) * 15) (by rw [← Nat.add_mul, Nat.add_sub_cancel' (by omega)]; exact Nat.le_refl _)
      obtain ⟨i0, hi, hz, hsize, hby⟩ := info_parts infoEntryB
      have hzv : ∀ w, (zeroValue 35).run Try.prog w = .ok (.agg (Entry.mk 0 [] 0 postZ8 []).vals.toArray) w := fun w => by simp [zeroValue, typeInfo, hi, hz, go_sem]
      have hcl := fun ty => run_clear_rows (P := Try.prog) wr 22 35 ty _ Try.underlying22 hzv (sz := 15) rfl (by omega) (by
        intro u hu
        exact Entry.one (Entry.mk 0 [] 0 postZ8 []) u hu) g (pre.length * 15) (l.length - pre.length) (c - pre.length) (by omega) (fun j hj => (hth j hj).1) (fun j hj => (hth j hj).2)
      generalize (Builtin.zeroCells (Value.agg (Entry.mk 0 [] 0 postZ8 []).vals.toArray).cells (l.length - pre.length)).toList = zs at hcl
      obtain ⟨A', c', hv, hAt⟩ := hRr.at_
      injection hv with e1 e2 e3
      subst e1
      have hpr := hAt.prefix_ (fun r hr => by obtain ⟨x, _, rfl⟩ := List.mem_map.1 hr; rfl) zs
      rw [List.length_map] at hpr
      obtain ⟨w4, hw4⟩ : ∃ u, u = wr.setCells g (pre.length * 15) zs := ⟨_, rfl⟩
      have hB4 : Below B w w4 := by rw [hw4]; exact Below.setCells hg zs _ _ hBr
      rw [← hw4] at hpr hcl
      have HQ := Lib.hid (show DelPost w B ck l (.returned (.slice (some ⟨g, 0, none⟩) pre.length c)) w4 from ⟨some ⟨g, 0, none⟩, c, by rw [hpre], by rw [← hpre]; omega, by rw [← hpre]; exact hpr, hB4, fun p h => by injection h with h; rw [← h]; exact hg⟩)
      have hp1 : ¬ (l.length : Int) < (l.length : Int) := by omega
      have hp2 : (pre.length : Int) ≤ (l.length : Int) := by omega
      have hp3 : (l.length : Int) ≤ (c : Int) := by omega
      have hp4 : (pre.length : Int) ≤ (c : Int) := by omega
      have hp0 : (0 : Int) ≤ (pre.length : Int) := Int.natCast_nonneg _
      have hp5 : ¬ c - pre.length = 0 := by omega
      have hp6 : ¬ c = pre.length := by omega
      have hp7 : ¬ pre.length = c := by omega
      have hp8 : ¬ c ≤ pre.length := by omega
      clear hRr hBr hpre hm hpm hth hi hz hsize hby hzv hAt e2 e3 hpr hB4 hw4 hln hcb hc
      go_wp2
      go_ret
      exact HQ.out
end Go.Proofs.Ytmkhpgpnahligaa
