/-
  Layer 22, walks: how many entries name a node, and whether entries may be, by the program, exact. Conditions: machine lists; a tree that is not too large.
-/
import Derived.Test.YtgifmpobokaejaaGreatDoorM37
import Derived.Test.YtgifmpobokaejaaGreatDoorM36
import Derived.Test.YtgifmpobokaejaaGreatDoorM38
import Derived.Test.YtgifmpobokaejaaGreatDoorM10
import Derived.Test.YtgifmpobokaejaaGreatDoorM23
namespace Go.Proofs.YtgifmpobokaejaaGreatDoor
open Go.RowKit
open Go.RowKit
attribute [local go_sem ↓] Go.wp_at_zero Go.wp_at_succ
attribute [local go_sem] rowAt_ptr rowOf_drew rowOf_drewN rowOf_alloc_past rowOf_new
attribute [local go_sem ↓] ldNode22 ldTree22 ldAttrR ldEntry

set_option maxRecDepth 20000 in
set_option maxHeartbeats 1600000 in
theorem lookNamed_iff (t : Tr) (ps : List (Nd × List Entry)) (g : Int) (w : World) (hT : TreeH w t ps) :
    Calls Tryz.prog 122 #[t.val, .int .i64 g] w (NamedP (named ps g) w) := by
  have hX := Blk.new w 26 t.vals
  have hB : Below w.heap.size w (w.alloc (.cells t.vals.toArray 26)) := (Below.refl _ _).alloc (Nat.le_refl _) _
  obtain ⟨w1, hw1⟩ : ∃ V, V = w.alloc (.cells t.vals.toArray 26) := ⟨_, rfl⟩
  rw [← hw1] at hX hB
  have c5 : w1.cell? ⟨w.heap.size, 5, none⟩ = some (.slice t.na t.ns.length t.nc) := hX.cell 5
  have HW1 := Lib.hid hw1
  have HT := Lib.hid (hT.below hB)
  have HB := Lib.hid hB
  have hl := hT.len
  have hl70 := hT.few.1
  have HA1 := Lib.hid HT.out.at_
  have hlp : t.ns.length = ps.length := by rw [hT.ns, List.length_map]
  obtain ⟨R, hR⟩ : ∃ R, R = named ps g := ⟨_, rfl⟩
  have HR0 := Lib.hid (show namedF g (ps.drop 0) (0, 0) = R from hR.symm)
  rw [← hR]
  clear hw1 hX hT hB hR
  unfold Tr.val
  generalize hna : t.na = A at *
  have HR := Lib.hid (fun (k : Nat) (hk : k < t.ns.length) => HT.out.rowAt2 hk)
  generalize t.ns = ns at *
  have HLP := Lib.hid hlp
  go_enter Tryz.func122, Tryz.ntmps122
  go_upto_region 1 with fail
  change Code.wp _ _ _ _ (w.alloc (.cells t.vals.toArray 26))
  rw [← HW1.out]
  clear hna HT hlp
  go_wp2
  go_loopw [6, 7, 15] (fun a b i wr => ∃ (x y : Int) (k : Nat), a = .int .i64 x ∧ b = .int .i64 y ∧ k ≤ ns.length ∧ i = .int .i64 k ∧ 0 ≤ x ∧ x ≤ 70 * k ∧ namedF g (ps.drop k) (x, y) = R ∧ Below w1.heap.size w1 wr) (fun _ _ i _ => ns.length - (intOf i).toNat)
  case atStart => exact ⟨0, 0, 0, rfl, rfl, Nat.zero_le _, rfl, by omega, by omega, HR0.out, Below.refl _ _⟩
  case round =>
    obtain ⟨wo, rfl⟩ : ∃ wo, wo = wr := ⟨wr, rfl⟩
    obtain ⟨x, y, k, rfl, rfl, hk, rfl, hx0, hx1, hf, hb⟩ := hrel
    have HF := Lib.hid hf
    have HBr := Lib.hid hb
    clear hf
    by_cases hlt : k < ns.length
    · obtain ⟨hkp, hnp, hen, hE, h70⟩ := HR.out k hlt
      obtain ⟨b, off, rfl, hb1, rn, -⟩ := rowCell8 Nd.len (by decide) (HA1.out.below hb) hlt
      rw [hnp] at rn
      have hk0 : (0 : Int) ≤ (k : Int) := Int.natCast_nonneg _
      have hk1 : (k : Int) < (ns.length : Int) := by omega
      have hiw : IntKind.i64.wrap ((k : Int) + 1) = ((k + 1 : Nat) : Int) := by rw [IntWalk.i64_in _ (by omega)]; omega
      have HF2 := Lib.hid (show namedF g (ps.drop (k + 1)) (namedE g ps[k].1.attr.gen (ps[k].2.drop 0) (x, y)) = R by rw [List.drop_zero, ← namedF_at hkp]; exact HF.out)
      generalize ps[k].2 = es at *
      generalize ps[k].1 = nd at *
      have bN := Blk.new wo 65 nd.vals
      have hbN : Below wo.heap.size wo (wo.alloc (.cells nd.vals.toArray 65)) := (Below.refl _ _).alloc (Nat.le_refl _) _
      have HE5 := Lib.hid ((hE.below hb).below hbN)
      clear hE hnp HF hb
      go_upto_region 5 with (first | (refine wpList_new_struct (by rfl) (by rfl) 65 (by rfl) _ _ (by rfl) nd.vals infoNode (by rfl) (by rfl) (Nd.one _) (by rfl) (by rfl) ?_) | fail)
      obtain ⟨w5, hw5⟩ : ∃ V, V = wo.alloc (.cells nd.vals.toArray 65) := ⟨_, rfl⟩
      rw [← hw5] at bN hbN HE5 ⊢
      have c14 : w5.cell? ⟨wo.heap.size, 14, none⟩ = some (.slice nd.ea es.length nd.ec) := by rw [bN.cell 14, ← hen]; rfl
      have c7 : w5.cell? ⟨wo.heap.size, 7, none⟩ = some (.int .i64 nd.attr.gen) := bN.cell 7
      have hlN := bN.lt
      have HB5 := Lib.hid (HBr.out.trans (hbN.mono HBr.out.size))
      have HW5 := Lib.hid hw5
      generalize nd.attr.gen = d at *
      generalize nd.ea = EA at *
      clear rn hbN bN hen hw5
      go_wp2
      go_loopw [6, 7, 22] (fun a b j V => ∃ (x y : Int) (m : Nat), a = .int .i64 x ∧ b = .int .i64 y ∧ m ≤ es.length ∧ j = .int .i64 m ∧ 0 ≤ x ∧ x ≤ 70 * k + m ∧ namedF g (ps.drop (k + 1)) (namedE g d (es.drop m) (x, y)) = R ∧ Below w5.heap.size w5 V) (fun _ _ j _ => es.length - (intOf j).toNat)
      case atStart => exact ⟨x, y, 0, rfl, rfl, Nat.zero_le _, rfl, by omega, by omega, HF2.out, Below.refl _ _⟩
      case round =>
        obtain ⟨x, y, m, rfl, rfl, hm, rfl, hx0, hx1, hf, hbV⟩ := hrel
        have HF := Lib.hid hf
        have HBV := Lib.hid hbV
        clear hf HF2
        by_cases hlm : m < es.length
        · obtain ⟨be, oe, rfl, hbe, re, -⟩ := rowCell8 Entry.len (by decide) (HE5.out.below hbV) hlm
          have hm0 : (0 : Int) ≤ (m : Int) := Int.natCast_nonneg _
          have hm1 : (m : Int) < (es.length : Int) := by omega
          have him : IntKind.i64.wrap ((m : Int) + 1) = ((m + 1 : Nat) : Int) := by rw [IntWalk.i64_in _ (by omega)]; omega
          have hxw : IntKind.i64.wrap (x + 1) = x + 1 := IntWalk.i64_in _ (by omega)
          have HN1 := Lib.hid (fun (hg : es[m].gen = g) => (show namedF g (ps.drop (k + 1)) (namedE g d (es.drop (m + 1)) (x + 1, d)) = R by
            have h := HF.out
            rw [namedE_at hlm, if_pos hg] at h
            exact h))
          have HN2 := Lib.hid (fun (hg : es[m].gen ≠ g) => (show namedF g (ps.drop (k + 1)) (namedE g d (es.drop (m + 1)) (x, y)) = R by
            have h := HF.out
            rw [namedE_at hlm, if_neg hg] at h
            exact h))
          generalize es[m] = xe at *
          have bE := Blk.new wr 80 xe.vals
          have hbE : Below wr.heap.size wr (wr.alloc (.cells xe.vals.toArray 80)) := (Below.refl _ _).alloc (Nat.le_refl _) _
          replace c7 := (hbV.cell (p := ⟨wo.heap.size, 7, none⟩) hlN).trans c7
          have hlN2 := Nat.lt_of_lt_of_le hlN hbV.size
          clear HF hbV
          go_upto_region 8 with (first | (refine wpList_new_struct (by rfl) (by rfl) 80 (by rfl) _ _ (by rfl) xe.vals infoEntry2 (by rfl) (by rfl) (Entry.one _) (by rfl) (by rfl) ?_) | fail)
          generalize wr.alloc (.cells xe.vals.toArray 80) = w8 at *
          have ce : w8.cell? ⟨wr.heap.size, 0, none⟩ = some (.int .i64 xe.gen) := bE.cell 0
          replace c7 := (hbE.cell (p := ⟨wo.heap.size, 7, none⟩) hlN2).trans c7
          have HB8 := Lib.hid (HBV.out.trans (hbE.mono HBV.out.size))
          clear hbE bE re c14
          by_cases hg : xe.gen = g
          · have HN := Lib.hid (HN1.out hg)
            rw [hg] at ce
            clear HN1 HN2 hg
            go_wp2
            go_roundw
            case rel => exact ⟨_, _, m + 1, rfl, rfl, by omega, by first | rfl | go_num, by omega, by omega, HN.out, HB8.out⟩
            case measure => simp [intOf]; omega
          · have hg2 : (xe.gen == g) = false := by simpa using hg
            have HN := Lib.hid (HN2.out hg)
            clear HN1 HN2 hg
            go_wp2
            go_roundw
            case rel => exact ⟨_, _, m + 1, rfl, rfl, by omega, by first | rfl | go_num, by omega, by omega, HN.out, HB8.out⟩
            case measure => simp [intOf]; omega
        · obtain rfl : m = es.length := by omega
          have hlm : ¬ (es.length : Int) < (es.length : Int) := by omega
          have HN := Lib.hid (show namedF g (ps.drop (k + 1)) (x, y) = R by
            have h := HF.out
            rw [namedE_end (Nat.le_refl _)] at h
            exact h)
          have HB8 := Lib.hid (HB5.out.trans (HBV.out.mono HB5.out.size))
          clear HF hbV
          go_wp2
          go_roundw
          case rel => first
            | exact ⟨_, _, k + 1, rfl, rfl, by omega, by first | rfl | go_num, by omega, by omega, HN.out, HB8.out⟩
            | (repeat apply Exists.intro
               refine ⟨?_, rfl⟩
               exact ⟨_, _, k + 1, rfl, rfl, by omega, by first | rfl | go_num, by omega, by omega, HN.out, HB8.out⟩)
          case measure => simp [intOf]; omega
    · obtain rfl : k = ns.length := by omega
      have hlm : ¬ (ns.length : Int) < (ns.length : Int) := by omega
      have HN := Lib.hid (show (x, y) = R by
        have h := HF.out
        rw [namedF_end (by have := HLP.out; omega)] at h
        exact h)
      have HBF := Lib.hid (below_then HB.out hb)
      clear hb HF
      go_wp2
      go_ret2
      have e := HN.out
      subst e
      exact ⟨rfl, HBF.out⟩

theorem eqlEntry22 (x y : Entry) (w : World) : (binOp .eql 80 (.agg x.vals.toArray) (.agg y.vals.toArray)).run Tryz.prog w = .ok (.bool (decide (x = y))) w := by
  by_cases h : x = y
  · rw [eql_same leafsEntry (by kernel_rfl) w _ _ (by rfl) (by rw [h]), decide_eq_true h]
  · rw [eql_other leafsEntry (by kernel_rfl) w _ _ (by rfl) (by rfl) (fun e => h (Entry.inj8 e)), decide_eq_false h]
theorem eqlEntryB22 (x : Entry) (g c : Int) (s : List UInt8) (w : World) : (binOp .eql 80 (.agg x.vals.toArray) (.agg #[.int .i64 g, .string (bs s), .int .i64 c, .bool false, .int .i64 0, .int .i64 0, .int .i64 0, .int .i64 0, .int .i64 0, .int .i64 0, .int .i64 0, .int .i64 0, .int .i64 0, .int .i64 0, .string ⟨#[]⟩])).run Tryz.prog w = .ok (.bool (decide (x = ⟨g, s, c, postZ8, []⟩))) w := eqlEntry22 x ⟨g, s, c, postZ8, []⟩ w
attribute [local go_sem ↓] eqlEntryB22

attribute [local go_sem] guardEntry

theorem At.takeRows {w : World} {sz : Nat} {A : Option Addr} {rows : List (List Value)} (h : At w sz A rows) (k : Nat) : At w sz A (rows.take k) := fun i r hr => by
  rw [List.getElem?_take] at hr
  split at hr
  · exact h i r hr
  · cases hr
theorem findGen_take {l : List Entry} {k : Nat} (hk : k < l.length) : (findGen (l.take k) l[k].name).2 = false ↔ findName l l[k].name = (k : Int) := by
  have hle : l.findIdx (fun x => x.name == l[k].name) ≤ k := by
    by_cases h : l.findIdx (fun x => x.name == l[k].name) ≤ k
    · exact h
    · have := List.not_of_lt_findIdx (show k < l.findIdx (fun x => x.name == l[k].name) by omega)
      simp at this
  have hf : findName l l[k].name = ((l.findIdx (fun x => x.name == l[k].name) : Nat) : Int) := by
    unfold findName
    rw [if_pos (by omega)]
  rw [hf]
  by_cases h : (l.take k).findIdx (fun x => x.name == l[k].name) < (l.take k).length
  · rw [findGen_some h]
    have h2 := List.findIdx_getElem (w := h)
    rw [List.length_take] at h
    rw [List.getElem_take] at h2
    have h3 : l.findIdx (fun x => x.name == l[k].name) ≤ (l.take k).findIdx (fun x => x.name == l[k].name) := by
      by_cases h4 : l.findIdx (fun x => x.name == l[k].name) ≤ (l.take k).findIdx (fun x => x.name == l[k].name)
      · exact h4
      · have := List.not_of_lt_findIdx (show (l.take k).findIdx (fun x => x.name == l[k].name) < l.findIdx (fun x => x.name == l[k].name) by omega)
        rw [h2] at this
        cases this
    constructor
    · intro h; cases h
    · intro h4; omega
  · rw [findGen_none h]
    refine ⟨fun _ => ?_, fun _ => rfl⟩
    by_cases h4 : l.findIdx (fun x => x.name == l[k].name) = k
    · rw [h4]
    · have hlt : l.findIdx (fun x => x.name == l[k].name) < k := by omega
      have h5 := List.findIdx_getElem (xs := l) (p := fun x => x.name == l[k].name) (w := by omega)
      exfalso
      apply h
      rw [List.findIdx_lt_length]
      refine ⟨l[l.findIdx (fun x => x.name == l[k].name)], ?_, h5⟩
      rw [List.mem_take_iff_getElem]
      exact ⟨_, by omega, rfl⟩
/-- a number of an error comes back: none, if something is so -/
def Forms (P : Prop) (w : World) (e : Ending) (w' : World) : Prop := ∃ v : Int, e = .returned (.int .i64 v) ∧ (v = 0 ∨ v = 14) ∧ (v = 0 ↔ P) ∧ Below w.heap.size w w'
theorem Forms.no {P : Prop} {w w' : World} (hn : ¬ P) (hb : Below w.heap.size w w') : Forms P w (.returned (.int .i64 14)) w' := ⟨14, rfl, .inr rfl, ⟨(fun h => by cases h), fun h => absurd h hn⟩, hb⟩
theorem Forms.yes {P : Prop} {w w' : World} (h : P) (hb : Below w.heap.size w w') : Forms P w (.returned (.int .i64 0)) w' := ⟨0, rfl, .inl rfl, ⟨fun _ => h, fun _ => rfl⟩, hb⟩
set_option maxRecDepth 20000 in
set_option maxHeartbeats 6400000 in
theorem nodeCheck_iff (A : Option Addr) (c : Nat) (l : List Entry) (w : World) (hl : l.length ≤ 70) (hc : l.length ≤ c) (hn : ∀ x ∈ l, x.name.length ≤ 300) (hA : At w 15 A (l.map Entry.vals)) :
    Calls Tryz.prog 121 #[.slice A l.length c] w (Forms (EntsOk l) w) := by
  have HA := Lib.hid hA
  clear hA
  go_enter Tryz.func121, Tryz.ntmps121
  go_wp2
  go_loopw [10] (fun i wr => ∃ k : Nat, k ≤ l.length ∧ i = .int .i64 k ∧ EntsK l k ∧ Below w.heap.size w wr) (fun i _ => l.length - (intOf i).toNat)
  case atStart => exact ⟨0, Nat.zero_le _, rfl, EntsK.zero _, Below.refl _ _⟩
  case round =>
    obtain ⟨k, hk, rfl, hG, hb⟩ := hrel
    by_cases hlk : k < l.length
    · have hAr := HA.out.below hb
      obtain ⟨b, off, rfl, hb1, r1, -⟩ := rowCell8 Entry.len (by omega) hAr hlk
      have bZ := Blk.new wr 80 l[k].vals
      have hba : Below wr.heap.size wr (wr.alloc (.cells l[k].vals.toArray 80)) := (Below.refl _ _).alloc (Nat.le_refl _) _
      have hA1 := hAr.below hba
      have hnk := hn l[k] (List.getElem_mem hlk)
      have hkp : k - 1 < l.length := by omega
      have hkl : (l.take k).length = k := by rw [List.length_take]; omega
      have HFT := Lib.hid (findGen_take hlk)
      have HPV := Lib.hid (fun (W : World) (h : Below w.heap.size w W) (_ : 0 < k) => (show W.cell? ⟨b, off + (k - 1) * 15 + 2, none⟩ = some (.int .i64 (l[k - 1]'hkp).cookie) by
        obtain ⟨b', o', e', -, -, hc'⟩ := rowCell8 Entry.len (by omega) (HA.out.below h) (k := k - 1) (by omega)
        injection e' with e'
        injection e' with e1 e2 _
        subst e1 e2
        exact hc' 2 (.int .i64 (l[k - 1]'hkp).cookie) rfl))
      have HIF := Lib.hid (fun (h : EntsOk l) => (show CondE l[k] (findName l l[k].name) (nameSt l[k].name) k (l[k - 1]'hkp).cookie from h k hlk))
      have HNX := Lib.hid (fun (h : CondE l[k] (findName l l[k].name) (nameSt l[k].name) k (l[k - 1]'hkp).cookie) => (show EntsK l (k + 1) from hG.next hlk h))
      have HB := Lib.hid (below_then hb hba)
      have KF := Lib.hid (fun W (h : Below w.heap.size w W) => (show Calls Tryz.prog 104 #[.slice (some ⟨b, off, none⟩) k c, .string (bs l[k].name)] W fun e w' => e = .returned (.tuple #[.int .i64 (findGen (l.take k) l[k].name).1, .bool (findGen (l.take k) l[k].name).2]) ∧ Below W.heap.size W w' by
        have := find20_any (some ⟨b, off, none⟩) c (l.take k) l[k].name W (by omega) (by rw [List.map_take]; exact (HA.out.below h).takeRows k)
        rw [hkl] at this
        exact this))
      have KN := Lib.hid (fun W => check4_any l[k].name W (by omega))
      clear hG hb hA1 hAr hnk
      generalize findName l l[k].name = F at *
      generalize nameSt l[k].name = N at *
      generalize hfg : findGen (l.take k) l[k].name = fg at *
      obtain ⟨fg1, tw⟩ := fg
      simp only at HFT KF
      have HLK := Lib.hid hlk
      have hk0 : (0 : Int) ≤ (k : Int) := Int.natCast_nonneg _
      have hk1 : (k : Int) < (l.length : Int) := by omega
      have hkc : (k : Int) ≤ (c : Int) := by omega
      generalize (l[k - 1]'hkp).cookie = pc at *
      generalize l[k] = x at *
      obtain ⟨w1, hw1⟩ : ∃ u, u = wr.alloc (.cells x.vals.toArray 80) := ⟨_, rfl⟩
      have HW1 := Lib.hid hw1
      rw [← hw1] at bZ HB
      clear hw1 hba hfg hkl
      go_upto_region 4 with (first
        | (refine wpList_store_new (by rfl) 80 _ _ (by rfl) x.vals (Entry.mk 0 [] 0 postZ8 []).vals wr 80 rfl (by rfl) (by rfl) (by rfl) (by kernel_rfl) (Entry.one _) ?_; rw [← HW1.out])
        | fail)
      have f0 : w1.cell? ⟨wr.heap.size, 0, none⟩ = some (.int .i64 x.gen) := bZ.cell 0
      have f1 : w1.cell? ⟨wr.heap.size, 1, none⟩ = some (.string (bs x.name)) := bZ.cell 1
      have f2 : w1.cell? ⟨wr.heap.size, 2, none⟩ = some (.int .i64 x.cookie) := bZ.cell 2
      have r0 : rowOf w1 wr.heap.size 0 15 = some x.vals.toArray := bZ.row 0 15 (by rw [Entry.len]; omega)
      have hlZ := bZ.lt
      obtain ⟨bare, hbare⟩ : ∃ b, b = decide (x = (⟨x.gen, x.name, x.cookie, postZ8, []⟩ : Entry)) := ⟨_, rfl⟩
      have HBA := Lib.hid (show bare = true ↔ x.fh = [] ∧ x.attr = postZ8 by
        rw [hbare, decide_eq_true_eq]
        constructor
        · intro h
          exact ⟨by rw [h], by rw [h]⟩
        · rintro ⟨h1, h2⟩
          obtain ⟨a1, a2, a3, a4, a5⟩ := x
          simp only at h1 h2
          subst h1 h2
          rfl)
      have HBE := Lib.hid hbare
      clear bZ r1 HW1 hbare
      go_upto_region 5 with fail
      rw [← HBE.out]
      clear HBE r0
      go_region_held3 (fun W => Stb w1 W) (first | exact Stb.start | assumption | (exact Stb.alloc (by assumption) _) | (exact Stb.call (by assumption) (by assumption))) (first | (go_at_call 104; refine (KF.out _ (HB.out.trans (Below.mono (Stb.below (by assumption)) HB.out.size))).mono ?_; rintro e w4 ⟨rfl, hb4⟩))
      rename_i hX
      have hst : Stb w1 w4 := hX
      clear hX hb4
      have hb := hst.below
      replace f0 := (hb.cell (p := ⟨wr.heap.size, 0, none⟩) hlZ).trans f0
      replace f1 := (hb.cell (p := ⟨wr.heap.size, 1, none⟩) hlZ).trans f1
      replace f2 := (hb.cell (p := ⟨wr.heap.size, 2, none⟩) hlZ).trans f2
      have HB4 := Lib.hid (below_then HB.out hb)
      have HP4 := Lib.hid (fun (h : 0 < k) => HPV.out w4 HB4.out h)
      clear hst hb KF HPV
      cases bare
      case false =>
        have HQ := Lib.hid (show ¬ EntsOk l from fun h => by have := HBA.out.2 ⟨(HIF.out h).2.2.1, (HIF.out h).2.2.2.1⟩; cases this)
        clear HIF HNX HP4
        go_wp2_with fail
        go_quiet (first
          | (go_at_call_of 102 (x.name); refine Calls.quiet_of (quiet20 (KN.out _))))
        all_goals
          go_wp2
          go_ret
          exact Forms.no HQ.out (bdN HB4.out _)
      cases tw
      case true =>
        have HQ := Lib.hid (show ¬ EntsOk l from fun h => by have := HFT.out.2 (HIF.out h).2.2.2.2.1; cases this)
        clear HIF HNX HP4
        go_wp2_with fail
        go_quiet (first
          | (go_at_call_of 102 (x.name); refine Calls.quiet_of (quiet20 (KN.out _))))
        all_goals
          go_wp2
          go_ret
          exact Forms.no HQ.out (bdN HB4.out _)
      by_cases q0 : x.gen < 1
      case pos =>
        have d0 : decide (x.gen < 1) = true := decide_eq_true q0
        have HQ := Lib.hid (show ¬ EntsOk l from fun h => absurd (HIF.out h).1 (by omega))
        clear q0
        clear HIF HNX HP4
        go_wp2_with fail
        go_quiet (first
          | (go_at_call_of 102 (x.name); refine Calls.quiet_of (quiet20 (KN.out _))))
        all_goals
          go_wp2
          go_ret
          exact Forms.no HQ.out (bdN HB4.out _)
      have d0 : decide (x.gen < 1) = false := decide_eq_false q0
      by_cases q1 : x.cookie < 1
      case pos =>
        have d1 : decide (x.cookie < 1) = true := decide_eq_true q1
        have HQ := Lib.hid (show ¬ EntsOk l from fun h => absurd (HIF.out h).2.1 (by omega))
        clear q0 q1
        clear HIF HNX HP4
        go_wp2_with fail
        go_quiet (first
          | (go_at_call_of 102 (x.name); refine Calls.quiet_of (quiet20 (KN.out _))))
        all_goals
          go_wp2
          go_ret
          exact Forms.no HQ.out (bdN HB4.out _)
      have d1 : decide (x.cookie < 1) = false := decide_eq_false q1
      by_cases q6 : 0 < k
      · have d6 : decide ((0 : Int) < (k : Int)) = true := decide_eq_true (by omega)
        have hp := HP4.out q6
        have hwp : IntKind.i64.wrap ((k : Int) - 1) = ((k - 1 : Nat) : Int) := by rw [IntWalk.i64_in _ (by omega)]; omega
        have hkq : ((k - 1 : Nat) : Int) < (l.length : Int) := by omega
        have hkq0 : (0 : Int) ≤ ((k - 1 : Nat) : Int) := Int.natCast_nonneg _
        by_cases q7 : x.cookie ≤ pc
        case pos =>
          have d7 : decide (x.cookie ≤ pc) = true := decide_eq_true q7
          have HQ := Lib.hid (show ¬ EntsOk l from fun h => absurd ((HIF.out h).2.2.2.2.2.2 q6) (by omega))
          clear q0 q1 q7
          clear HIF HNX HP4
          go_wp2_with fail
          go_quiet (first
            | (go_at_call_of 102 (x.name); refine Calls.quiet_of (quiet20 (KN.out _))))
          all_goals
            go_wp2
            go_ret
            exact Forms.no HQ.out (bdN HB4.out _)
        have d7 : decide (x.cookie ≤ pc) = false := decide_eq_false q7
        by_cases q5 : N = 0
        case neg =>
          have d5 : (N != 0) = true := by simpa using q5
          have HQ := Lib.hid (show ¬ EntsOk l from fun h => q5 (HIF.out h).2.2.2.2.2.1)
          clear q0 q1 q5 q7
          clear HIF HNX HP4
          go_wp2_with fail
          go_quiet (first
            | (go_at_call_of 102 (x.name); refine Calls.quiet_of (quiet20 (KN.out _))))
          all_goals
            go_wp2
            go_ret
            exact Forms.no HQ.out (bdN HB4.out _)
        have d5 : (N != 0) = false := by simpa using q5
        have HN := Lib.hid (HNX.out ⟨by omega, by omega, (HBA.out.1 rfl).1, (HBA.out.1 rfl).2, HFT.out.1 rfl, q5, fun _ => by omega⟩)
        clear q0 q1 q5 q7 HNX HIF
        go_wp2_with fail
        go_quiet (first
          | (go_at_call_of 102 (x.name); refine Calls.quiet_of (quiet20 (KN.out _))))
        all_goals
          go_wp2
          go_roundw
          case rel => exact ⟨k + 1, by have := HLK.out; omega, by go_num, HN.out, bdN HB4.out _⟩
          case measure => have := HLK.out; simp [intOf]; omega
      · have d6 : decide ((0 : Int) < (k : Int)) = false := decide_eq_false (by omega)
        by_cases q5 : N = 0
        case neg =>
          have d5 : (N != 0) = true := by simpa using q5
          have HQ := Lib.hid (show ¬ EntsOk l from fun h => q5 (HIF.out h).2.2.2.2.2.1)
          clear q0 q1 q5
          clear HIF HNX HP4
          go_wp2_with fail
          go_quiet (first
            | (go_at_call_of 102 (x.name); refine Calls.quiet_of (quiet20 (KN.out _))))
          all_goals
            go_wp2
            go_ret
            exact Forms.no HQ.out (bdN HB4.out _)
        have d5 : (N != 0) = false := by simpa using q5
        have HN := Lib.hid (HNX.out ⟨by omega, by omega, (HBA.out.1 rfl).1, (HBA.out.1 rfl).2, HFT.out.1 rfl, q5, fun h => absurd h q6⟩)
        clear q0 q1 q5 HNX HIF
        go_wp2_with fail
        go_quiet (first
          | (go_at_call_of 102 (x.name); refine Calls.quiet_of (quiet20 (KN.out _))))
        all_goals
          go_wp2
          go_roundw
          case rel => exact ⟨k + 1, by have := HLK.out; omega, by go_num, HN.out, bdN HB4.out _⟩
          case measure => have := HLK.out; simp [intOf]; omega
    · obtain rfl : k = l.length := by omega
      have HG := Lib.hid hG.all
      have hk1 : ¬ (l.length : Int) < (l.length : Int) := by omega
      clear hG hlk
      go_wp2
      go_ret
      exact Forms.yes HG.out hb
end Go.Proofs.YtgifmpobokaejaaGreatDoor

/-
  Layer 22, walks: how the program looks whether a node that is no directory may be, exact. Conditions: a tree that is not too large.
-/
namespace Go.Proofs.YtgifmpobokaejaaGreatDoor
open Go.RowKit
open Go.RowKit
attribute [local go_sem ↓] Go.wp_at_zero Go.wp_at_succ
attribute [local go_sem] rowAt_ptr rowOf_drew rowOf_drewN rowOf_alloc_past rowOf_new
attribute [local go_sem ↓] ldNode22 ldTree22 ldAttrR ldEntry

set_option maxRecDepth 20000 in
set_option maxHeartbeats 3200000 in
theorem lookOther_iff (t : Tr) (ps : List (Nd × List Entry)) (n : Nd) (es : List Entry) (w : World) (hT : TreeH w t ps) (hen : n.en = es.length) (hd : (dataL n).length ≤ 1048576) :
    Calls Tryz.prog 98 #[t.val, .agg n.vals.toArray] w (TellsP (OthOk ps n es) w) := by
  obtain ⟨bT, bN, hB, hs⟩ := chain2_blks w t.vals n.vals 26 65
  obtain ⟨w1, hw1⟩ : ∃ V, V = (w.alloc (.cells t.vals.toArray 26)).alloc (.cells n.vals.toArray 65) := ⟨_, rfl⟩
  rw [← hw1] at bT bN hB hs
  have rT : rowOf w1 w.heap.size 0 6 = some t.vals.toArray := bT.row 0 6 (by rw [Tr.len]; omega)
  have cE : w1.cell? ⟨w.heap.size + 1, 14, none⟩ = some (.slice n.ea es.length n.ec) := by rw [bN.cell 14, ← hen]; rfl
  have cL : w1.cell? ⟨w.heap.size + 1, 13, none⟩ = some (.int .i64 n.last) := bN.cell 13
  have cP : w1.cell? ⟨w.heap.size + 1, 12, none⟩ = some (.int .i64 n.parent) := bN.cell 12
  have cV : w1.cell? ⟨w.heap.size + 1, 11, none⟩ = some (.int .i64 n.verf) := bN.cell 11
  have cD : w1.cell? ⟨w.heap.size + 1, 10, none⟩ = some (.string (bs (dataL n))) := by rw [← dataL_is]; exact bN.cell 10
  have cG : w1.cell? ⟨w.heap.size + 1, 7, none⟩ = some (.int .i64 n.attr.gen) := bN.cell 7
  have cK : w1.cell? ⟨w.heap.size + 1, 2, none⟩ = some (.int .i64 n.attr.nlink) := bN.cell 2
  have cT : w1.cell? ⟨w.heap.size + 1, 0, none⟩ = some (.int .i64 n.attr.type) := bN.cell 0
  have hlN := bN.lt
  have HW1 := Lib.hid hw1
  have HT := Lib.hid (hT.below hB)
  have KN := Lib.hid (lookNamed_iff t ps n.attr.gen w1 HT.out)
  have KT := Lib.hid (fun W => target4_any (dataL n) W (by omega))
  have HB := Lib.hid hB
  have hsz := bs_size (dataL n)
  have HO := Lib.hid (show OthOk ps n es ↔ (es.length = 0 ∧ n.parent = 0 ∧ n.last = 0 ∧ n.attr.nlink = (named ps n.attr.gen).1 ∧ 1 ≤ (named ps n.attr.gen).1 ∧ (named ps n.attr.gen).1 ≤ 8 ∧
      (n.attr.type = 1 → (dataL n).length ≤ 1024 ∧ 0 ≤ n.verf) ∧ (n.attr.type = 5 → targetSt (dataL n) = 0 ∧ n.verf = 0) ∧ (n.attr.type ≠ 1 → n.attr.type ≠ 5 → (dataL n).length = 0 ∧ n.verf = 0)) by
    unfold OthOk
    rw [dataL_len, List.length_eq_zero_iff]
    exact Iff.rfl)
  generalize OthOk ps n es = D at *
  generalize hty : n.attr.type = ty at *
  generalize dataL n = d at *
  generalize targetSt d = st at *
  generalize named ps n.attr.gen = R at *
  obtain ⟨y, z⟩ := R
  have HO2 := Lib.hid HO.out
  clear hw1 bT bN hs hT hB hen HO hty
  unfold Tr.val at KN ⊢
  go_enter Tryz.func98, Tryz.ntmps98
  go_upto_region 1 with fail
  change Code.wp _ _ _ _ ((w.alloc (.cells t.vals.toArray 26)).alloc (.cells n.vals.toArray 65))
  rw [← HW1.out]
  go_wp2_with fail
  refine KN.out.mono ?_
  rintro e w2 ⟨rfl, hb⟩
  replace cE := (hb.cell (p := ⟨w.heap.size + 1, 14, none⟩) hlN).trans cE
  replace cL := (hb.cell (p := ⟨w.heap.size + 1, 13, none⟩) hlN).trans cL
  replace cP := (hb.cell (p := ⟨w.heap.size + 1, 12, none⟩) hlN).trans cP
  replace cV := (hb.cell (p := ⟨w.heap.size + 1, 11, none⟩) hlN).trans cV
  replace cD := (hb.cell (p := ⟨w.heap.size + 1, 10, none⟩) hlN).trans cD
  replace cK := (hb.cell (p := ⟨w.heap.size + 1, 2, none⟩) hlN).trans cK
  replace cT := (hb.cell (p := ⟨w.heap.size + 1, 0, none⟩) hlN).trans cT
  have HF := Lib.hid (show Below w.heap.size w w2 from below_then HB.out hb)
  clear hb rT cG KN
  by_cases h0 : 0 < es.length
  case pos =>
    have h1 : (0 : Int) < (es.length : Int) := by omega
    have HQ := Lib.hid (show ¬ D from fun h => absurd (HO2.out.1 h).1 (by omega))
    clear HO2
    go_wp2
    go_ret
    exact TellsP.no HQ.out HF.out
  have h1 : ¬ (0 : Int) < (es.length : Int) := by omega
  by_cases q1 : n.parent = 0
  case neg =>
    have q1b : (n.parent != 0) = true := by simpa using q1
    have HQ := Lib.hid (show ¬ D from fun h => q1 (HO2.out.1 h).2.1)
    clear HO2 q1
    go_wp2
    go_ret
    exact TellsP.no HQ.out HF.out
  have q1b : (n.parent != 0) = false := by simpa using q1
  by_cases q2 : n.last = 0
  case neg =>
    have q2b : (n.last != 0) = true := by simpa using q2
    have HQ := Lib.hid (show ¬ D from fun h => q2 (HO2.out.1 h).2.2.1)
    clear HO2 q1 q2
    go_wp2
    go_ret
    exact TellsP.no HQ.out HF.out
  have q2b : (n.last != 0) = false := by simpa using q2
  by_cases q3 : n.attr.nlink = y
  case neg =>
    have q3b : (n.attr.nlink != y) = true := by simpa using q3
    have HQ := Lib.hid (show ¬ D from fun h => q3 (HO2.out.1 h).2.2.2.1)
    clear HO2 q1 q2 q3
    go_wp2
    go_ret
    exact TellsP.no HQ.out HF.out
  have q3b : (n.attr.nlink != y) = false := by simpa using q3
  by_cases q4 : 1 ≤ y
  case neg =>
    have q4b : y < 1 := by omega
    have HQ := Lib.hid (show ¬ D from fun h => q4 (HO2.out.1 h).2.2.2.2.1)
    clear HO2 q1 q2 q3 q4
    go_wp2
    go_ret
    exact TellsP.no HQ.out HF.out
  have q4b : ¬ y < 1 := by omega
  by_cases q5 : y ≤ 8
  case neg =>
    have q5b : 8 < y := by omega
    have HQ := Lib.hid (show ¬ D from fun h => q5 (HO2.out.1 h).2.2.2.2.2.1)
    clear HO2 q1 q2 q3 q4 q5
    go_wp2
    go_ret
    exact TellsP.no HQ.out HF.out
  have q5b : ¬ 8 < y := by omega
  have HO := Lib.hid (show D ↔ ((ty = 1 → d.length ≤ 1024 ∧ 0 ≤ n.verf) ∧ (ty = 5 → st = 0 ∧ n.verf = 0) ∧ (ty ≠ 1 → ty ≠ 5 → d.length = 0 ∧ n.verf = 0)) from
    ⟨fun h => (HO2.out.1 h).2.2.2.2.2.2, fun h => HO2.out.2 ⟨by omega, q1, q2, q3, q4, q5, h⟩⟩)
  clear HO2 q1 q2 q3 q4 q5
  by_cases t1 : ty = 1
  · subst t1
    by_cases hd1 : d.length ≤ 1024
    · have hd2 : (d.length : Int) ≤ 1024 := by omega
      by_cases hv : 0 ≤ n.verf
      · have hvd : decide (0 ≤ n.verf) = true := decide_eq_true hv
        have HY := Lib.hid (show D from HO.out.2 ⟨fun _ => ⟨hd1, hv⟩, (fun h => by cases h), fun h => absurd rfl h⟩)
        clear HO
        go_wp2
        all_goals
          go_ret
          exact TellsP.yes HY.out HF.out
      · have hv2 : decide (0 ≤ n.verf) = false := decide_eq_false hv
        have HQ := Lib.hid (show ¬ D from fun h => hv ((HO.out.1 h).1 rfl).2)
        clear HO
        go_wp2
        all_goals
          go_ret
          exact TellsP.no HQ.out HF.out
    · have hd2 : decide ((d.length : Int) ≤ 1024) = false := decide_eq_false (by omega)
      have HQ := Lib.hid (show ¬ D from fun h => hd1 ((HO.out.1 h).1 rfl).1)
      clear HO
      go_wp2
      all_goals
        go_ret
        exact TellsP.no HQ.out HF.out
  have t1' : (ty == 1) = false := by simpa using t1
  by_cases t5 : ty = 5
  · subst t5
    by_cases hs0 : st = 0
    · subst hs0
      have HY := Lib.hid (show D ↔ n.verf = 0 from ⟨fun h => ((HO.out.1 h).2.1 rfl).2, fun h => HO.out.2 ⟨fun h => absurd h (by decide), fun _ => ⟨rfl, h⟩, fun _ h => absurd rfl h⟩⟩)
      clear HO
      by_cases hv : n.verf = 0
      · have HQ := Lib.hid (HY.out.2 hv)
        have hv2 : (n.verf == 0) = true := by simpa using hv
        clear HY hv
        go_wp2_with (first | (go_at_call 124; refine (KT.out _).mono ?_; rintro e w3 ⟨rfl, rfl⟩) | fail)
        all_goals
          go_ret
          exact TellsP.yes HQ.out HF.out
      · have HQ := Lib.hid (fun h => hv (HY.out.1 h))
        have hv2 : (n.verf == 0) = false := by simpa using hv
        clear HY hv
        go_wp2_with (first | (go_at_call 124; refine (KT.out _).mono ?_; rintro e w3 ⟨rfl, rfl⟩) | fail)
        all_goals
          go_ret
          exact TellsP.no HQ.out HF.out
    · have hs1 : (st == 0) = false := by simpa using hs0
      have HQ := Lib.hid (show ¬ D from fun h => hs0 ((HO.out.1 h).2.1 rfl).1)
      clear HO hs0
      go_wp2_with (first | (go_at_call 124; refine (KT.out _).mono ?_; rintro e w3 ⟨rfl, rfl⟩) | fail)
      all_goals
        go_ret
        exact TellsP.no HQ.out HF.out
  have t5' : (ty == 5) = false := by simpa using t5
  by_cases hd0 : d.length = 0
  case neg =>
    have q2b : d ≠ [] := fun h => hd0 (by rw [h]; rfl)
    have q2c : d.isEmpty = false := by simpa using q2b
    have q2e : (d == []) = false := by simpa using q2b
    have HQ := Lib.hid (show ¬ D from fun h => hd0 ((HO.out.1 h).2.2 t1 t5).1)
    clear HO hd0
    go_wp2
    all_goals
      go_ret
      exact TellsP.no HQ.out HF.out
  obtain rfl : d = [] := List.eq_nil_of_length_eq_zero hd0
  have HY := Lib.hid (show D ↔ n.verf = 0 from ⟨fun h => ((HO.out.1 h).2.2 t1 t5).2, fun h => HO.out.2 ⟨fun h2 => absurd h2 t1, fun h2 => absurd h2 t5, fun _ _ => ⟨rfl, h⟩⟩⟩)
  clear HO hd0
  by_cases hv : n.verf = 0
  · have HQ := Lib.hid (HY.out.2 hv)
    have hv2 : (n.verf == 0) = true := by simpa using hv
    clear HY hv
    go_wp2
    all_goals
      go_ret
      exact TellsP.yes HQ.out HF.out
  · have HQ := Lib.hid (show ¬ D from fun h => hv (HY.out.1 h))
    have hv2 : (n.verf == 0) = false := by simpa using hv
    clear HY hv
    go_wp2
    all_goals
      go_ret
      exact TellsP.no HQ.out HF.out
end Go.Proofs.YtgifmpobokaejaaGreatDoor


/-
  Layer 22, walks: a tree with the root alone. No condition.
-/
namespace Go.Proofs.YtgifmpobokaejaaGreatDoor
open Go.RowKit
open Go.RowKit
attribute [local go_sem ↓] Go.wp_at_zero Go.wp_at_succ
attribute [local go_sem] rowAt_ptr rowOf_drew rowOf_drewN rowOf_alloc_past rowOf_new
attribute [local go_sem ↓] ldNode22 ldTree22 ldAttrR

theorem ldLimN {ρ : Operand → Value} {w : World} {dst : Option Tmp} {ty : TypeId} {pos : String} {after : Array Edge} {g : Option (Nat × Bool)} {x : Operand} (h : (rowAt w 3 (ρ x)).isSome = true) :
    (execOp ρ ⟨dst, .load 23 x, ty, pos, after, g⟩).run Tryz.prog w = .ok (.value (.agg ((rowAt w 3 (ρ x)).getD #[]))) w := ex_load 23 3 Tryz.underlying23 rfl (by kernel_rfl) h
attribute [local go_sem ↓] ldLimN

/-- the root -/
def rootN : Nd := ⟨⟨2, 511, 2, 0, 0, 0, 1, 1, 0, 0⟩, ⟨#[]⟩, 0, 1, 0, none, 0, 0⟩
def trZ : Tr := ⟨⟨0, 0, 0⟩, 0, 0, none, 0, []⟩
theorem Tr.one22 (t : Tr) : ∀ v ∈ t.vals, v.oneCell' = true := by
  intro v hv
  unfold Tr.vals at hv
  rcases List.mem_append.1 hv with hv | hv
  · exact Lim.one _ v hv
  · simp only [List.mem_cons, List.not_mem_nil, or_false] at hv
    rcases hv with rfl | rfl | rfl <;> rfl
theorem infoTree22 : (Tryz.prog.info? 26).map (fun i => (i.zero, i.size)) = some (some (.agg trZ.vals.toArray), 6) := by kernel_rfl
/-- what New gives of limits that may be -/
def NewP (l : Lim) (w : World) (e : Ending) (w' : World) : Prop :=
  ∃ t : Tr, e = .returned (.tuple #[.agg t.vals.toArray, .int .i64 0]) ∧ t.lim = l ∧ t.now = 0 ∧ t.gens = 1 ∧ TreeH w' t [(rootN, [])] ∧ t.ns.length ≤ t.nc ∧ Below w.heap.size w w'
set_option maxRecDepth 20000 in
set_option maxHeartbeats 3200000 in
theorem lookNew_any (l : Lim) (w : World) (hok : l.ok = true) : Calls Tryz.prog 19 #[.agg l.vals.toArray] w (NewP l w) := by
  obtain ⟨i0, hi, hz, hsize⟩ : ∃ i0, Tryz.prog.info? 65 = some i0 ∧ i0.zero = some (.agg ndZ.vals.toArray) ∧ i0.size = 15 := by
    have h : (Tryz.prog.info? 65).map (fun i => (i.zero, i.size)) = some (some (.agg ndZ.vals.toArray), 15) := by kernel_rfl
    cases hi : Tryz.prog.info? 65 with
    | none => rw [hi] at h; cases h
    | some i =>
      rw [hi] at h
      simp only [Option.map_some, Option.some.injEq, Prod.mk.injEq] at h
      exact ⟨i, rfl, h.1, h.2⟩
  obtain ⟨bL, bR, hB, hs⟩ := chain2_blks w l.vals trZ.vals 23 26
  obtain ⟨w1, hw1⟩ : ∃ V, V = (w.alloc (.cells l.vals.toArray 23)).alloc (.cells trZ.vals.toArray 26) := ⟨_, rfl⟩
  rw [← hw1] at bL bR hB hs
  obtain ⟨sp, qu, no⟩ := l
  have rL : rowOf w1 w.heap.size 0 3 = some #[.int .i64 sp, .int .i64 qu, .int .i64 no] := bL.row 0 3 (by show _ ≤ 3; omega)
  have hlL := bL.lt
  have hlR := bR.lt
  have HW1 := Lib.hid hw1
  have HI := Lib.hid (And.intro hi (And.intro hz hsize))
  have KC := Lib.hid (fun W => (show Calls Tryz.prog 57 #[.agg #[.int .i64 sp, .int .i64 qu, .int .i64 no]] W fun e w' => e = .returned (.int .i64 0) ∧ Below W.heap.size W w' by
    have := check_any ⟨sp, qu, no⟩ W
    rw [hok] at this
    exact this))
  clear hw1 bL hs hi hz hsize
  go_enter Tryz.func19, Tryz.ntmps19
  go_upto_region 1 with fail
  change Code.wp _ _ _ _ ((w.alloc (.cells (Lim.mk sp qu no).vals.toArray 23)).alloc (.cells trZ.vals.toArray 26))
  rw [← HW1.out]
  go_wp2_with fail
  refine (KC.out _).mono ?_
  rintro e w2 ⟨rfl, hb⟩
  replace rL := (rowOf_below hb hlL 0 3).trans rL
  replace bR := bR.stays hb
  replace hB := below_then hB hb
  replace hlL := Nat.lt_of_lt_of_le hlL hb.size
  replace hlR := Nat.lt_of_lt_of_le hlR hb.size
  clear hb KC HW1
  have bN := Blk.new w2 65 rootN.vals
  have hbN : Below w2.heap.size w2 (w2.alloc (.cells rootN.vals.toArray 65)) := (Below.refl _ _).alloc (Nat.le_refl _) _
  go_upto_region 5 with (first | (refine wpList_new_struct (by rfl) (by rfl) 65 (by rfl) _ _ (by rfl) rootN.vals infoNode (by rfl) (by rfl) (Nd.one _) (by rfl) (by rfl) ?_) | fail)
  generalize w2.alloc (.cells rootN.vals.toArray 65) = w3 at *
  have rN : rowOf w3 w2.heap.size 0 15 = some rootN.vals.toArray := bN.row 0 15 (by rw [Nd.len]; omega)
  replace rL := (rowOf_below hbN hlL 0 3).trans rL
  replace bR := bR.stays hbN
  replace hB := below_then hB hbN
  clear hbN bN
  have hAt : At (w3.alloc (.cells rootN.vals.toArray 65)) 15 (some ⟨w3.heap.size, 0, none⟩) [rootN.vals] := by
    have := At.fresh w3 65 15 w3.heap.size [rootN.vals] (by intro r hr; simp only [List.mem_singleton] at hr; subst hr; rfl) rfl
    simpa using this
  have hbA : Below w3.heap.size w3 (w3.alloc (.cells rootN.vals.toArray 65)) := (Below.refl _ _).alloc (Nat.le_refl _) _
  have hlR3 := bR.lt
  obtain ⟨w4, hw4⟩ : ∃ V, V = w3.alloc (.cells rootN.vals.toArray 65) := ⟨_, rfl⟩
  rw [← hw4] at hAt hbA
  have bR4 := bR.stays hbA
  have hB4 := below_then hB hbA
  obtain ⟨t, ht⟩ : ∃ t : Tr, t = ⟨⟨sp, qu, no⟩, 0, 1, some ⟨w3.heap.size, 0, none⟩, 1, [rootN]⟩ := ⟨_, rfl⟩
  have HW4 := Lib.hid hw4
  have HTt := Lib.hid ht
  have HR := Lib.hid (And.intro (bR4.whole (cs := t.vals) (by rfl)) (Below.setWhole (b := w.heap.size + 1) hB4 (by omega) t.vals))
  have HA := Lib.hid (hAt.farCells (g := w.heap.size + 1) (fun p h => by injection h with h; subst h; exact hlR3) 0 t.vals)
  clear hw4 ht hAt hbA hB4
  rw [HW4.out] at bR4
  go_wp2_with (first
    | (refine wpList_buildSlice_one (by rfl) 24 65 (.tmp 15) (by rfl) rootN.vals (by rfl) Tryz.underlying24 i0 _ HI.out.1 HI.out.2.1 rfl HI.out.2.2 (by rw [Nd.len]; omega) (by rw [Nd.len]; omega) ?_)
    | (refine wpList_store_whole (by rfl) 26 _ _ (by rfl) (w.heap.size + 1) t.vals _ bR4 (by rfl) (by rfl) (by rw [HTt.out]; rfl) (by kernel_rfl) (Tr.one22 _) ?_; rw [← HW4.out])
    | fail)
  refine ret_cells2 (w.heap.size + 1) 0 t.vals (.int .i64 0) Tryz.results19 Tryz.underlying26 rfl (by kernel_rfl) rfl rfl HR.out.1.range rfl ?_
  refine ⟨t, rfl, by rw [HTt.out], by rw [HTt.out], by rw [HTt.out], ⟨by rw [HTt.out]; rfl, ?_, ?_, ?_, ?_, ?_⟩, by rw [HTt.out]; exact Nat.le_refl _, HR.out.2⟩
  · have := HA.out
    rw [HTt.out] at this ⊢
    exact this
  · intro p hp
    simp only [List.mem_singleton] at hp
    subst hp
    exact ⟨rfl, At.nil⟩
  · rw [HTt.out]
    refine ⟨by simp, fun n hn => ?_⟩
    simp only [List.mem_singleton] at hn
    subst hn
    decide
  · intro p hp
    simp only [List.mem_singleton] at hp
    subst hp
    exact ⟨Nat.zero_le _, fun x hx => by cases hx⟩
  · intro m hm
    rw [HTt.out] at hm
    simp only [List.mem_singleton] at hm
    subst hm
    decide
end Go.Proofs.YtgifmpobokaejaaGreatDoor
