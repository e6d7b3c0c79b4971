/-
  Layer 17, walks: whether two lists of changes are the same; what must come of fixed calls; the law RecChanges. Conditions: sizes.
-/
import Derived.Test.YtjepemfllgjhfaaRecWalkB
import Derived.Test.YtjepemfllgjhfaaRecWalkF
namespace Go.Proofs.Ytjepemfllgjhfaa
open Go.RowKit
attribute [local go_sem ↓] Go.wp_at_zero Go.wp_at_succ
attribute [local go_sem] rowAt_ptr rowOf_drew rowOf_drewN rowOf_alloc_past rowOf_new
attribute [local go_sem ↓] ldAttrR ldChange neqChange

attribute [local go_sem] Change.at0 Change.lat0 Change.at1 Change.lat1 Change.at2 Change.lat2 Change.at3 Change.lat3 Change.at4 Change.lat4 Change.at5 Change.lat5 Change.at6 Change.lat6 Change.at7 Change.lat7 Change.at8 Change.lat8 Change.at9 Change.lat9 Change.at10 Change.lat10 Change.at11 Change.lat11 Change.at12 Change.lat12 Change.at13 Change.lat13 Change.at14 Change.lat14 Change.at15 Change.lat15 Change.at16 Change.lat16 Change.at17 Change.lat17 Change.sub0_18 Change.lsub0_18 Change.sub6_10 Change.lsub6_10 Change.len Attr.at0 Attr.lat0 Attr.at1 Attr.lat1 Attr.at2 Attr.lat2 Attr.at3 Attr.lat3 Attr.at4 Attr.lat4 Attr.at5 Attr.lat5 Attr.at6 Attr.lat6 Attr.at7 Attr.lat7 Attr.at8 Attr.lat8 Attr.at9 Attr.lat9 Attr.sub0_10 Attr.lsub0_10 Attr.len

attribute [local go_sem] guardChange Cch.lat0 Cch.lat1 Cch.lat2 Cch.lat3

theorem rowCellOf {α : Type} {w : World} {sz : Nat} {A : Option Addr} {l : List α} {vals : α → List Value} (hsz : ∀ x, (vals x).length = sz) (h0 : 0 < sz) (hA : At w sz A (l.map vals)) {k : Nat} (hk : k < l.length) :
    ∃ b off, A = some ⟨b, off, none⟩ ∧ b < w.heap.size ∧ rowOf w b (off + k * sz) sz = some (vals l[k]).toArray := by
  obtain ⟨b, off, rfl, hb, hc⟩ := rowCell hA hk
  exact ⟨b, off, rfl, hb, rowOf_of hc (hsz _) h0⟩
theorem take_same {α : Type} {l m : List α} {k : Nat} (h : l.take k = m.take k) (hk : k < l.length) (hm : k < m.length) (he : l[k] = m[k]) : l.take (k + 1) = m.take (k + 1) := by
  rw [take_next _ _ hk, take_next _ _ hm, h, he]

set_option maxHeartbeats 1600000 in
theorem same17_any (A B : Option Addr) (c d : Nat) (l m : List Change) (w : World) (hl : l.length ≤ 9223372036854775807) (hm : m.length ≤ 9223372036854775807) (hA : At w 18 A (l.map Change.vals)) (hB : At w 18 B (m.map Change.vals)) :
    Calls Try.prog 10 #[.slice A l.length c, .slice B m.length d] w fun e w' => e = .returned (.bool (decide (l = m))) ∧ Below w.heap.size w w' := by
  by_cases hlm : l.length = m.length
  · have hne : ((l.length : Int) != (m.length : Int)) = false := by simp [hlm]
    go_enter Try.func10, Try.ntmps10
    go_wp2
    go_loopw [5] (fun i wr => ∃ k : Nat, k ≤ l.length ∧ i = .int .i64 k ∧ l.take k = m.take k ∧ Below w.heap.size w wr) (fun i _ => l.length - (intOf i).toNat)
    case atStart => exact ⟨0, Nat.zero_le _, rfl, rfl, Below.refl _ _⟩
    case round =>
      obtain ⟨k, hk, rfl, ht, hb⟩ := hrel
      by_cases hlt : k < l.length
      · have hltm : k < m.length := by omega
        obtain ⟨b1, o1, rfl, hb1, r1⟩ := rowCellOf Change.len (by omega) (hA.below hb) hlt
        obtain ⟨b2, o2, rfl, hb2, r2⟩ := rowCellOf Change.len (by omega) (hB.below hb) hltm
        have hk0 : (0 : Int) ≤ (k : Int) := Int.natCast_nonneg _
        have hk1 : (k : Int) < (l.length : Int) := by omega
        have hk2 : (k : Int) < (m.length : Int) := by omega
        have HT := Lib.hid (fun h => take_same ht hlt hltm h)
        have HN := Lib.hid (show l[k] ≠ m[k] → l ≠ m from fun h e => h (by subst e; rfl))
        clear ht hA hB
        by_cases he : l[k] = m[k]
        · have hd : decide (l[k] ≠ m[k]) = false := decide_eq_false (by simpa using he)
          have HS := Lib.hid (HT.out he)
          clear he HT HN
          go_wp2_with fail
          go_region_held3 (fun W => Stb wr W) (first | exact Stb.start | assumption) (first | fail)
          go_wp2
          go_roundw
          case rel => exact ⟨k + 1, by omega, by go_num, HS.out, bdN hb _⟩
          case measure => simp [intOf]; omega
        · have hd : decide (l[k] ≠ m[k]) = true := decide_eq_true he
          have HS := Lib.hid (HN.out he)
          clear he HT HN
          go_wp2_with fail
          go_region_held3 (fun W => Stb wr W) (first | exact Stb.start | assumption) (first | fail)
          go_wp2
          go_ret
          exact ⟨ret_bool (by rw [decide_eq_false HS.out]), bdN hb _⟩
      · have hlt2 : ¬ k < l.length := hlt
        have HS := Lib.hid (show l = m by
          have h1 : k = l.length := by omega
          rw [h1, List.take_length, hlm, List.take_length] at ht
          exact ht)
        clear ht hA hB
        go_wp2
        go_ret
        exact ⟨ret_bool (by rw [decide_eq_true HS.out]), hb⟩
  · have hne : ((l.length : Int) != (m.length : Int)) = true := by simp; omega
    have HS := Lib.hid (show l ≠ m from fun e => hlm (by rw [e]))
    go_enter Try.func10, Try.ntmps10
    go_wp2
    go_ret
    exact ⟨ret_bool (by rw [decide_eq_false HS.out]), Below.refl _ _⟩

def knownChange : Change := { change0 with kind := 4, up := [97, 98] }
theorem rPut_known : rPut [knownChange] = ([0, 0, 0, 1, 0, 0, 0, 4, 0, 0, 0, 2, 97, 98, 0, 0], 0) := by kernel_rfl

set_option maxHeartbeats 400000 in
theorem known17_any (w : World) : Calls Try.prog 9 #[] w fun e w' => e = .returned (.bool true) ∧ Below w.heap.size w w' := by
  have hat : At (w.alloc (.cells [knownChange.vals].flatten.toArray 66)) 18 (some ⟨w.heap.size, 0, none⟩) ([knownChange].map Change.vals) := At.fresh w 66 18 w.heap.size [knownChange.vals] (by simp [Change.len]) rfl
  have hB0 : Below w.heap.size w (w.alloc (.cells [knownChange.vals].flatten.toArray 66)) := (Below.refl _ _).alloc (Nat.le_refl _) _
  have hp := put17_any (some ⟨w.heap.size, 0, none⟩) 1 [knownChange] _ (by decide) (by intro x hx; simp at hx; subst hx; exact ⟨rfl, rfl, rfl, by decide, by decide, by decide, ⟨rfl, rfl, rfl, rfl, rfl, rfl, rfl, rfl, rfl, rfl⟩, rfl, rfl⟩) hat
  rw [rPut_known] at hp
  have HP := Lib.hid hp
  have HB := Lib.hid hB0
  clear hp hat hB0
  go_enter Try.func9, Try.ntmps9
  go_wp2_with fail
  refine HP.out.mono ?_
  rintro e w1 ⟨rfl, hb1⟩
  have HB2 := Lib.hid (below_then HB.out hb1)
  clear hb1 HP HB
  go_wp2
  go_ret
  exact ⟨rfl, HB2.out⟩

theorem ldCache {ρ : Operand → Value} {w : World} {dst : Option Tmp} {ty : TypeId} {pos : String} {after : Array Edge} {g : Option (Nat × Bool)} {x : Operand} (h : (rowAt w 4 (ρ x)).isSome = true) :
    (execOp ρ ⟨dst, .load 27 x, ty, pos, after, g⟩).run Try.prog w = .ok (.value (.agg ((rowAt w 4 (ρ x)).getD #[]))) w := ex_load 27 4 Try.underlying27 rfl (by kernel_rfl) h
attribute [local go_sem ↓] ldCache

/-- all changes that make a cache -/
def cacheChanges (c : Cch) : List Change := c.hs.map hChange ++ c.fs.map fChange ++ c.ns.map nChange ++ c.bl.map bChange

set_option maxRecDepth 20000 in
set_option maxHeartbeats 1600000 in
theorem recChanges17_any (c : Cch) (w : World) (hs : c.sized) (hT : c.There w) : Calls Try.prog 3 #[.agg c.vals.toArray] w fun e w' => e = .returned (.bool true) ∧ Below w.heap.size w w' := by
  have hX := Blk.new w 27 c.vals
  have hB0 : Below w.heap.size w (w.alloc (.cells c.vals.toArray 27)) := (Below.refl _ _).alloc (Nat.le_refl _) _
  have hcx := hX.cell
  have hz : w.heap.size < (w.alloc (.cells c.vals.toArray 27)).heap.size := by simp
  obtain ⟨s1, s2, s3, s4⟩ := hs
  unfold maxLen at s1 s2 s3 s4
  by_cases h1 : 100 < c.hs.length
  · go_enter Try.func3, Try.ntmps3
    go_wp2_with fail
    refine (known17_any _).mono ?_
    rintro e w2 ⟨rfl, hb⟩
    go_wp2
    go_ret
    exact ⟨rfl, below_then hB0 hb⟩
  by_cases h2 : 100 < c.fs.length
  · go_enter Try.func3, Try.ntmps3
    go_wp2_with fail
    refine (known17_any _).mono ?_
    rintro e w2 ⟨rfl, hb⟩
    go_wp2
    go_ret
    exact ⟨rfl, below_then hB0 hb⟩
  by_cases h3 : 100 < c.ns.length
  · go_enter Try.func3, Try.ntmps3
    go_wp2_with fail
    refine (known17_any _).mono ?_
    rintro e w2 ⟨rfl, hb⟩
    go_wp2
    go_ret
    exact ⟨rfl, below_then hB0 hb⟩
  by_cases h4 : 100 < c.bl.length
  · go_enter Try.func3, Try.ntmps3
    go_wp2_with fail
    refine (known17_any _).mono ?_
    rintro e w2 ⟨rfl, hb⟩
    go_wp2
    go_ret
    exact ⟨rfl, below_then hB0 hb⟩
  have r0 : rowOf (w.alloc (.cells c.vals.toArray 27)) w.heap.size 0 4 = some c.vals.toArray := hX.row 0 4 (by show 4 ≤ 4; omega)
  have hT1 := hT.below hB0
  have HL := Lib.hid (show (cacheChanges c).length ≤ 400 by simp [cacheChanges]; omega)
  have H1 := Lib.hid (fun W (h : c.There W) => recChanges_any c W (by omega) (by omega) (by omega) (by omega) h)
  have H2 := Lib.hid (fun W (h : c.There W) => refChanges17_any c W (by omega) (by omega) (by omega) (by omega) h)
  change Hid (∀ W, c.There W → Calls Try.prog _ _ W fun e w' => ∃ v, e = .returned v ∧ RowL Change.vals w' W.heap.size _ 18 v (cacheChanges c) ∧ Below W.heap.size W w') at H1
  change Hid (∀ W, c.There W → Calls Try.prog _ _ W fun e w' => ∃ v, e = .returned v ∧ RowL Change.vals w' W.heap.size _ 18 v (cacheChanges c) ∧ Below W.heap.size W w') at H2
  generalize cacheChanges c = l at *
  clear hX hT
  go_enter Try.func3, Try.ntmps3
  go_wp2_with fail
  generalize w.alloc (.cells c.vals.toArray 27) = w1 at *
  clear hcx
  go_region_held3 (fun W => Stb w1 W) (first | exact Stb.start | assumption | (exact Stb.alloc (by assumption) _) | (exact Stb.call (by assumption) (by assumption))) (first
    | (go_at_call 11; refine (H1.out _ (hT1.below (by assumption : Stb w1 _).2.2)).mono ?_; rintro e wP ⟨vP, rfl, hRP, hbP⟩; obtain ⟨AP, cP, rfl, hAP⟩ := hRP.at_; rw [List.length_map])
    | (go_at_call 12; refine (H2.out _ (hT1.below (by assumption : Stb w1 _).2.2)).mono ?_; rintro e wR ⟨vR, rfl, hRR, hbR⟩; obtain ⟨AR, cR, rfl, hAR⟩ := hRR.at_; rw [List.length_map])
    | (go_at_call 10; refine (same17_any AP AR cP cR l l _ (by have := HL.out; omega) (by have := HL.out; omega) (by first | exact hAP | exact hAP.below hbR) (by first | exact hAR | exact hAR.below hbP)).mono ?_; rintro e wS ⟨rfl, hbS⟩; rw [decide_eq_true rfl])
    | (go_at_call 9; refine (known17_any _).mono ?_; rintro e wK ⟨rfl, hbK⟩))
  all_goals
    have hst := (by assumption : Stb w1 wK)
    have HS := Lib.hid hst.below
    clear hst
    go_wp2
    go_ret
    exact ⟨rfl, below_then hB0 HS.out⟩
end Go.Proofs.Ytjepemfllgjhfaa
