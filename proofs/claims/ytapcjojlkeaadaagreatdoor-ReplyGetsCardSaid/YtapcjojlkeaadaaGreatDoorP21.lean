/-
  Layer 8, walks: how numbers are taken. Condition: texts of Go's length.
-/
import Derived.Test.YtapcjojlkeaadaaGreatDoorP04
import Derived.Test.YtapcjojlkeaadaaGreatDoorP16
import Derived.Test.YtapcjojlkeaadaaGreatDoorP17
import Derived.Test.YtapcjojlkeaadaaGreatDoorP20
import Derived.Test.YtapcjojlkeaadaaGreatDoorP19
import Derived.Test.YtapcjojlkeaadaaGreatDoorP09
import Derived.Test.YtapcjojlkeaadaaGreatDoorP14
namespace Go.Proofs.YtapcjojlkeaadaaGreatDoor
open Go.RowKit
attribute [local go_sem ↓] Go.wp_at_zero Go.wp_at_succ
attribute [local go_sem] rowAt_ptr rowOf_drew rowOf_drewN rowOf_alloc_past rowOf_new

set_option maxHeartbeats 800000 in
theorem taken1_any (g h : Nat) (r : Rs) (w : World) (hR : Rd w g r) (hH : Blk w h 48 [.pointer (some ⟨g, 0, none⟩)]) (hl : r.s.length ≤ 9223372036854775807) :
    Calls Tryz.prog 41 #[.pointer (some ⟨h, 0, none⟩)] w fun e w' => e = .returned (.tuple #[.int .i64 (rU64 r).1, .bool ((rU64 r).2.e == 0)]) ∧ Reads g (rU64 r).2 w w' := by
  have c1 : w.cell? ⟨h, 0, none⟩ = some (.pointer (some ⟨g, 0, none⟩)) := hH.cell 0
  have hne := hH.ne_ hR.1 (by decide)
  have hlt := hH.lt
  have K := Lib.hid (rU64_any g r w.drew (Rd.drewQ hR) hl)
  clear hH hR
  generalize rU64 r = y at *
  obtain ⟨n, q⟩ := y
  go_enter Tryz.func41, Tryz.ntmps41
  go_wp2_with fail
  go_region_held3 (fun W => StQ g w W) (with_reducible first | assumption | exact StQ.start | (refine StQ.call ?_ hT; first | assumption | exact StQ.start)) (first
    | (go_at_call 38; refine K.out.mono ?_; rintro e w1 ⟨rfl, hQ⟩; have hT := hQ.2)
    | (go_at_call 15; refine (rErr_any g q _ hQ.1).mono ?_; rintro e w2 ⟨rfl, rfl⟩))
  all_goals
    have HQ := Lib.hid hQ
    clear hQ hT
    go_wp2
    go_ret2
    exact ⟨rfl, HQ.out.1, (Touch.refl _ _).drew.then_ HQ.out.2⟩
theorem numsK_len {r : Rs} (h : r.s.length ≤ 9223372036854775807) : ∀ k, (numsK r k).2.s.length ≤ 9223372036854775807
  | 0 => h
  | k + 1 => Nat.le_trans (rU64_len (numsK_len h k)) (numsK_len h k)
theorem numsK_one (r : Rs) : ∀ k, (numsK r k).1.length = k
  | 0 => rfl
  | k + 1 => by simp [numsK, numsK_one r k]
theorem rU64_stick8 {r : Rs} (h : r.e ≠ 0) : (rU64 r).2.e ≠ 0 := by
  have h1 : rNum 8 r = (0, r) := rNum_err h
  unfold rU64
  rw [h1]
  simpa using h
theorem numsK_stick {r : Rs} {k : Nat} (h : (numsK r k).2.e ≠ 0) : ∀ m, k ≤ m → (numsK r m).2.e ≠ 0 := by
  intro m hm
  induction m with
  | zero => obtain rfl : k = 0 := by omega
            exact h
  | succ m ih =>
    by_cases hk : k = m + 1
    · subst hk; exact h
    · exact rU64_stick8 (ih (by omega))
/-- what 'some' gives: a row of the call's own, or nil and false -/
def SomeP {α : Type} (T : TypeId) (sz : Nat) (vals : α → List Value) (ok : Bool) (l : List α) (g : Nat) (q : Rs) (w : World) (e : Ending) (w' : World) : Prop :=
  ∃ v, e = .returned (.tuple #[v, .bool ok]) ∧ (ok = true → RowS w' w.heap.size T sz v (l.map vals) ∧ Rd w' g q) ∧ (ok = false → v = .slice none 0 0) ∧ Touch (fun k => k = g) w w'
theorem Rd.belowQ {w w' : World} {g B : Nat} {r : Rs} (h : Rd w g r) (hb : Below B w w') (hg : g < B) : Rd w' g r := ⟨h.1.below hb hg, h.2⟩
theorem Touch.belowQ {F : Nat → Prop} {w W W' : World} (h : Touch F w W) (hb : Below w.heap.size W W') : Touch F w W' :=
  ⟨hb.os.trans h.os, hb.tape.trans h.tape, hb.output.trans h.output, Nat.le_trans h.size hb.size, fun k hk hn => (hb.block k hk).trans (h.block k hk hn)⟩
def numsOk (r : Rs) : Bool := decide ((rU32 r).1 ≤ 16) && ((numsK (rU32 r).2 (rU32 r).1).2.e == 0)

set_option maxRecDepth 20000 in
set_option maxHeartbeats 1600000 in
theorem someI_any (g h : Nat) (r : Rs) (w : World) (hR : Rd w g r) (hH : Blk w h 48 [.pointer (some ⟨g, 0, none⟩)]) (hl : r.s.length ≤ 9223372036854775807) :
    Calls Tryz.prog 40 #[.pointer (some ⟨g, 0, none⟩), .int .i64 16, .func (.func 41) #[] #[.pointer (some ⟨h, 0, none⟩)]] w
      (SomeP 3 1 int1 (numsOk r) (numsK (rU32 r).2 (rU32 r).1).1 g (numsK (rU32 r).2 (rU32 r).1).2 w) := by
  obtain ⟨i0, hi, hz, hsize, hby⟩ := info_parts infoIntB
  have K := Lib.hid (rU32_any g r w hR hl)
  have hq := Nat.le_trans (rU32_len hl) hl
  have hne := hH.ne_ hR.1 (by decide)
  have hgl := hR.lt
  have hhl := hH.lt
  unfold numsOk
  clear hR hl
  generalize rU32 r = y at *
  obtain ⟨n, q⟩ := y
  simp only at hq ⊢
  by_cases hn : 16 < n
  · have hn' : (16 : Int) < n := by omega
    have HO := Lib.hid (show (decide (n ≤ 16) && ((numsK q n).2.e == 0)) = false by simp; omega)
    go_enter Tryz.func40, Tryz.ntmps40
    go_wp2_with fail
    refine K.out.mono ?_
    rintro e w1 ⟨rfl, hQ⟩
    have HQ := Lib.hid hQ
    clear hQ
    go_wp2
    go_ret2
    rw [HO.out]
    refine ⟨.slice none 0 0, rfl, fun h => ?_, fun _ => rfl, HQ.out.2⟩
    exact absurd h (by simp)
  have hn' : ¬ (16 : Int) < n := by omega
  have HLEN := Lib.hid (numsK_len hq)
  go_enter Tryz.func40, Tryz.ntmps40
  go_wp2_with fail
  refine K.out.mono ?_
  rintro e w1 ⟨rfl, hQ⟩
  have hH1 := hH.touch hQ.2 hne
  have HQ := Lib.hid hQ
  clear hQ hH
  go_wp2
  go_loopw [9, 18] (fun v i wr => ∃ k, k ≤ n ∧ i = .int .i64 k ∧ RowS wr w.heap.size 3 1 v ((numsK q k).1.map int1) ∧ Rd wr g (numsK q k).2 ∧ (0 < k → (numsK q k).2.e = 0) ∧ (k = 0 → v = .slice none 0 0) ∧ Blk wr h 48 [.pointer (some ⟨g, 0, none⟩)] ∧ Touch (fun k => k = g) w wr) (fun _ i _ => n - (intOf i).toNat)
  case atStart => exact ⟨0, by omega, rfl, RowS.none_, HQ.out.1, fun h => by omega, fun _ => rfl, hH1, HQ.out.2⟩
  case round =>
    obtain ⟨k, hk, rfl, hRow, hR, he, hv0, hH, hT⟩ := hrel
    have hgw := hR.lt
    have hsz := hT.size
    by_cases hlt : k < n
    · have hlt' : (k : Int) < n := by omega
      have KT := Lib.hid (taken1_any g h _ wr hR hH (HLEN.out k))
      have hs1 : numsK q (k + 1) = ((numsK q k).1 ++ [((rU64 (numsK q k).2).1 : Int)], (rU64 (numsK q k).2).2) := rfl
      have hone := numsK_one q k
      have HST := Lib.hid (numsK_stick (r := q) (k := k + 1))
      rw [hs1] at HST
      clear hR
      generalize rU64 (numsK q k).2 = z at *
      obtain ⟨x, q1⟩ := z
      simp only at hs1 HST
      by_cases he1 : q1.e = 0
      · have he2 : (q1.e == 0) = true := by simpa using he1
        rw [he2] at KT
        go_wp2_with fail
        refine KT.out.mono ?_
        rintro e w2 ⟨rfl, hQ2⟩
        have hRow2 := RowS.touch hRow hQ2.2 (fun j hj hg => by have := (RowS.lt hRow j hj).1; omega)
        have hH2 := hH.touch hQ2.2 hne
        have hT2 := hT.then_ hQ2.2
        have hz2 := hT2.size
        have hap := RowS.append (P := Tryz.prog) 33 33 i0 Tryz.underlying33 hi hz hsize hby rfl (by omega) (by omega) hRow2 (by omega) (int1 (x : Int)) rfl (by simp [int1, Value.oneCell']) (by rw [List.length_map, hone]; omega)
        have HA := Lib.hid hap
        have HK := Lib.hid (And.intro hQ2.1 (And.intro hH2 hT2))
        have HS := Lib.hid hs1
        have hiw : IntKind.i64.wrap ((k : Int) + 1) = (k : Int) + 1 := IntWalk.i64_in _ (by omega)
        clear hap hQ2 hH2 hT2 hRow2 hRow hH hT hs1 hv0 KT
        go_wp2_with (first
          | (refine wpList_append_by (by rfl) (.tmp 27) (.tmp 29) #[33, 33] (by rfl) _ _ (by rfl) (by rfl) HA.out ?_; rintro v' w' ⟨hR', hb'⟩)
          | fail)
        have hb1 := hb' w2 (Below.refl _ _)
        have HR := Lib.hid hR'
        have HQ2 := Lib.hid (Rd.belowQ HK.out.1 hb1 (by omega))
        have HH := Lib.hid (HK.out.2.1.below hb1 (by omega))
        have HT := Lib.hid (HK.out.2.2.belowQ hb1)
        clear hR' hb' hb1 HK HA
        go_roundw
        case rel => exact ⟨k + 1, by omega, by go_num, by rw [HS.out, List.map_append]; exact HR.out, by rw [HS.out]; exact HQ2.out, fun _ => by rw [HS.out]; exact he1, fun h => by omega, HH.out, HT.out⟩
        case measure => simp [intOf]; omega
      · have he2 : (q1.e == 0) = false := by simpa using he1
        rw [he2] at KT
        have HO := Lib.hid (show (decide (n ≤ 16) && ((numsK q n).2.e == 0)) = false by have := HST.out he1 n (by omega); simp [this])
        go_wp2_with fail
        refine KT.out.mono ?_
        rintro e w2 ⟨rfl, hQ2⟩
        have HT := Lib.hid (hT.then_ hQ2.2)
        clear hQ2 hRow hH hT KT
        go_wp2
        go_ret2
        rw [HO.out]
        refine ⟨.slice none 0 0, rfl, fun h => ?_, fun _ => rfl, HT.out⟩
        exact absurd h (by simp)
    · obtain rfl : k = n := by omega
      have HR := Lib.hid hRow
      have HQ2 := Lib.hid hR
      have HT := Lib.hid hT
      have HV := Lib.hid hv0
      have HE := Lib.hid he
      obtain ⟨Q, hQd⟩ : ∃ Q, Q = (numsK q k).2 := ⟨_, rfl⟩
      rw [← hQd] at HQ2 HE
      clear hRow hH hT hv0 he
      go_wp2_with fail
      refine (rErr_any g Q _ HQ2.out).mono ?_
      rintro e w2 ⟨rfl, rfl⟩
      by_cases hQe : Q.e = 0
      · have hQe2 : (Q.e == 0) = true := by simpa using hQe
        have HO := Lib.hid (show (decide (k ≤ 16) && ((numsK q k).2.e == 0)) = true by rw [← hQd]; simp [hQe]; omega)
        rw [hQe]
        go_wp2
        go_ret2
        rw [HO.out, ← hQd]
        refine ⟨_, rfl, fun _ => ⟨HR.out, HQ2.out⟩, fun h => ?_, HT.out⟩
        exact absurd h (by simp)
      · have hk0 : k = 0 := by
          rcases Nat.eq_zero_or_pos k with h | h
          · exact h
          · exact absurd (HE.out h) hQe
        have HO := Lib.hid (show (decide (k ≤ 16) && ((numsK q k).2.e == 0)) = false by rw [← hQd]; simp [hQe])
        have hv := HV.out hk0
        subst hv
        have hQe2 : (Q.e == 0) = false := by simpa using hQe
        go_wp2
        go_ret2
        rw [HO.out]
        refine ⟨.slice none 0 0, ?_, fun h => ?_, fun _ => rfl, HT.out⟩
        · simp
          intro h
          exact hQe (by rw [hQd, hk0]; exact h)
        · exact absurd h (by simp)
end Go.Proofs.YtapcjojlkeaadaaGreatDoor

/-
  Layer 1, walks: a thing's bytes by the reference; a thing put to a writer. Condition: texts of at most 2^20 bytes.
-/
namespace Go.Proofs.YtapcjojlkeaadaaGreatDoor
open Go.RowKit
attribute [local go_sem ↓] Go.wp_at_zero Go.wp_at_succ

set_option maxHeartbeats 800000 in
theorem refOpt_any (b : Bool) (n : Int) (w : World) (hn : b = true → 0 ≤ n) (hi : n ≤ 9223372036854775807) :
    Calls Tryz.prog 51 #[.agg #[.bool b, .int .i64 n]] w fun e w' => e = .returned (.string (bs (optB b n))) ∧ Below w.heap.size w w' := by
  have hr := range_new w [.bool b, .int .i64 n] 29
  have hc0 := hr 0 _ rfl
  have hc1 := hr 1 _ rfl
  have hB0 : Below w.heap.size w (w.alloc (.cells #[.bool b, .int .i64 n] 29)) := (Below.refl _ _).alloc (Nat.le_refl _) _
  have hz1 : w.heap.size < (w.alloc (.cells #[.bool b, .int .i64 n] 29)).heap.size := by simp
  clear hr
  cases b
  · go_enter Tryz.func51, Tryz.ntmps51
    go_wp2_with fail
    refine (refTruth_any false _).mono ?_
    rintro e w2 ⟨rfl, hb⟩
    have hB := below_then hB0 hb
    go_wp2
    go_ret
    exact ⟨ret_string (by simp [optB]), hB⟩
  · obtain ⟨m, rfl⟩ := Int.eq_ofNat_of_zero_le (hn rfl)
    have hZ : (num m 8).length = 8 := num_len _ _
    have hZ2 : (truth true).length = 4 := num_len _ _
    have hs1 := bs_size (truth true)
    have hs2 := bs_size (num m 8)
    go_enter Tryz.func51, Tryz.ntmps51
    go_wp2_with fail
    generalize w.alloc (.cells #[.bool true, .int .i64 m] 29) = w1 at *
    go_region_held3 (fun W => Stb w1 W) (first | exact Stb.start | assumption | (exact Stb.alloc (by assumption) _) | (exact Stb.call (by assumption) (by assumption))) (first
      | (go_at_call 28; refine (refTruth_any true _).mono ?_; rintro e w2 ⟨rfl, hb⟩)
      | (go_at_call 24; refine (refNum_any m 8 _ (by omega) (by omega)).mono ?_; rintro e w3 ⟨rfl, hb3⟩))
    have hs3 : Stb w1 w3 := by assumption
    go_wp2
    go_ret
    exact ⟨ret_string (by simp [optB]), below_then hB0 hs3.below⟩

end Go.Proofs.YtapcjojlkeaadaaGreatDoor


/-
  Layer 1, walks: a thing put to a writer; whether things are too many or too long; the fixed calls. Condition: texts of at most 2^20 bytes.
-/
namespace Go.Proofs.YtapcjojlkeaadaaGreatDoor
open Go.RowKit
attribute [local go_sem ↓] Go.wp_at_zero Go.wp_at_succ

theorem refused {g : Nat} {sv : Value} {l : List UInt8} {B : Nat} {w w' : World} (hW : Wr w g sv l) (hb : Below B w w') (hB : w.heap.size ≤ B) : Moved g sv (l ++ []) w w' := by
  rw [List.append_nil]
  have hb' : Below w.heap.size w w' := hb.mono hB
  exact ⟨sv, hW.stays hb', fun _ e => .inl e, Touch.of_below hb' _⟩

end Go.Proofs.YtapcjojlkeaadaaGreatDoor


/-
  Layer 5, walks: the options of what is to be set, in order; whether there are none; what is to be set is put. No condition.
-/
namespace Go.Proofs.YtapcjojlkeaadaaGreatDoor
open Go.RowKit
attribute [local go_sem ↓] Go.wp_at_zero Go.wp_at_succ ldOpt

attribute [local go_sem] rowAt_ptr rowOf_drew rowOf_drewN

def optPtrs (g : Nat) : List Value := [.pointer (some ⟨g, 0, none⟩), .pointer (some ⟨g, 2, none⟩), .pointer (some ⟨g, 4, none⟩), .pointer (some ⟨g, 6, none⟩), .pointer (some ⟨g, 8, none⟩)]

theorem refOptO_any (o : Opt) (w : World) (hn : o.is = true → 0 ≤ o.n) (hi : o.n ≤ 9223372036854775807) :
    Calls Tryz.prog 51 #[.agg o.vals.toArray] w fun e w' => e = .returned (.string (bs o.bytes)) ∧ Below w.heap.size w w' := refOpt_any o.is o.n w hn hi

end Go.Proofs.YtapcjojlkeaadaaGreatDoor


/-
  Layer 5, walks: what was ahead and behind, and what is to be set, are got. Conditions: a reader at a block of its own; texts are machine texts.
-/
namespace Go.Proofs.YtapcjojlkeaadaaGreatDoor
open Go.RowKit
attribute [local go_sem ↓] Go.wp_at_zero Go.wp_at_succ
attribute [local go_sem] rowAt_ptr rowOf_drew rowOf_drewN rowOf_alloc_past rowOf_new
attribute [local go_sem ↓] ldAttrR ldOpt ldPost ldWcc

attribute [local go_sem] Attr.at0 Attr.lat0 Attr.at1 Attr.lat1 Attr.at2 Attr.lat2 Attr.at3 Attr.lat3 Attr.at4 Attr.lat4 Attr.at5 Attr.lat5 Attr.at6 Attr.lat6 Attr.at7 Attr.lat7 Attr.at8 Attr.lat8 Attr.at9 Attr.lat9 Attr.sub0_10 Attr.lsub0_10 Attr.len Opt.at0 Opt.lat0 Opt.at1 Opt.lat1 Opt.sub0_2 Opt.lsub0_2 Opt.len Sett.at0 Sett.lat0 Sett.at1 Sett.lat1 Sett.at2 Sett.lat2 Sett.at3 Sett.lat3 Sett.at4 Sett.lat4 Sett.at5 Sett.lat5 Sett.at6 Sett.lat6 Sett.at7 Sett.lat7 Sett.at8 Sett.lat8 Sett.at9 Sett.lat9 Sett.sub0_10 Sett.lsub0_10 Sett.sub0_2 Sett.lsub0_2 Sett.sub2_2 Sett.lsub2_2 Sett.sub4_2 Sett.lsub4_2 Sett.sub6_2 Sett.lsub6_2 Sett.sub8_2 Sett.lsub8_2 Sett.len Post.at0 Post.lat0 Post.at1 Post.lat1 Post.at2 Post.lat2 Post.at3 Post.lat3 Post.at4 Post.lat4 Post.at5 Post.lat5 Post.at6 Post.lat6 Post.at7 Post.lat7 Post.at8 Post.lat8 Post.at9 Post.lat9 Post.at10 Post.lat10 Post.sub0_11 Post.lsub0_11 Post.sub1_10 Post.lsub1_10 Post.len Wcc.at0 Wcc.lat0 Wcc.at1 Wcc.lat1 Wcc.at2 Wcc.lat2 Wcc.at3 Wcc.lat3 Wcc.at4 Wcc.lat4 Wcc.at5 Wcc.lat5 Wcc.at6 Wcc.lat6 Wcc.at7 Wcc.lat7 Wcc.at8 Wcc.lat8 Wcc.at9 Wcc.lat9 Wcc.at10 Wcc.lat10 Wcc.at11 Wcc.lat11 Wcc.at12 Wcc.lat12 Wcc.sub0_13 Wcc.lsub0_13 Wcc.sub0_2 Wcc.lsub0_2 Wcc.sub2_11 Wcc.lsub2_11 Wcc.sub3_10 Wcc.lsub3_10 Wcc.len optV

theorem setAt_wcc (o : Opt) (p : Post) : setAt (Wcc.vals ⟨o, postZ⟩) 2 p.vals = Wcc.vals ⟨o, p⟩ := rfl
set_option maxHeartbeats 3200000 in
theorem getWcc_any (g : Nat) (r : Rs) (w : World) (hR : Rd w g r) (hl : r.s.length ≤ 9223372036854775807) :
    Calls Tryz.prog 70 #[.pointer (some ⟨g, 0, none⟩)] w (Gave g (rWcc r).2 (gotV (gotR Wcc.ok wccZ (rWcc r)).1.vals (gotR Wcc.ok wccZ (rWcc r)).2) w) := by
  have hb := Blk.new w 31 wccZ.vals
  have hB : Below w.heap.size w (w.alloc (.cells wccZ.vals.toArray 31)) := (Below.refl _ _).alloc (Nat.le_refl _) _
  have hR1 := hR.stays hB
  have hne : w.heap.size ≠ g := Nat.ne_of_gt hR.lt
  have hgl := hR.lt
  have hl2 := rOpt_len hl
  have hg := rWcc_good hl
  clear hR
  go_enter Tryz.func70, Tryz.ntmps70
  go_wp2_with fail
  change Calls _ _ _ (w.alloc (.cells wccZ.vals.toArray 31)) _
  generalize w.alloc (.cells wccZ.vals.toArray 31) = w0 at *
  refine (rOpt_any g r _ hR1 hl).mono ?_
  rintro e w1 ⟨he, hQ⟩
  obtain ⟨x, hx⟩ : ∃ x, x = rOpt r := ⟨_, rfl⟩
  rw [← hx] at he hQ hl2
  have HX := Lib.hid hx
  clear hx
  subst he
  obtain ⟨⟨o1, o2⟩, rr⟩ := x
  simp only at hQ hl2
  have hb1 := (hQ.keeps hb hne).alloc (.cells (Wcc.vals ⟨optOf (o1, o2), postZ⟩).toArray 31)
  have hp1 := Blk.new w1 31 (Wcc.vals ⟨optOf (o1, o2), postZ⟩)
  have hQ1 := (Reads.behind hB hQ).new ((Below.refl _ _).alloc (Nat.le_refl _) (.cells (Wcc.vals ⟨optOf (o1, o2), postZ⟩).toArray 31))
  have hne1 : w1.heap.size ≠ g := by have := hQ.1.lt; omega
  have hlt2 : w.heap.size < w1.heap.size := (hQ.keeps hb hne).lt
  have hne2 : w.heap.size ≠ w1.heap.size := by omega
  have hR2 := hQ1.1
  clear hQ hb
  go_wp2_with fail
  change Calls _ _ _ (w1.alloc (.cells (Wcc.vals ⟨optOf (o1, o2), postZ⟩).toArray 31)) _
  generalize w1.alloc (.cells (Wcc.vals ⟨optOf (o1, o2), postZ⟩).toArray 31) = w2 at *
  refine (posted_any g rr _ hR2 (by omega)).mono ?_
  rintro e w3 ⟨he, hQ3⟩
  obtain ⟨p, hp⟩ : ∃ p, p = rPost rr := ⟨_, rfl⟩
  rw [← hp] at he hQ3
  have HP := Lib.hid hp
  clear hp
  subst he
  obtain ⟨pv, rs⟩ := p
  simp only at hQ3
  have hb3 := hQ3.keeps hb1 hne
  have hp3 := hQ3.keeps hp1 hne1
  have hQ4 := hQ1.trans hQ3
  have hp4 := hp3.sets pv.vals _ 2
  rw [setAt_wcc] at hp4
  have hb4 := Blk.farCells (g := w.heap.size) hne2 pv.vals 2 _ hb3
  have hQ5 : Reads g rs w (w3.setCells w1.heap.size 2 pv.vals) := ⟨hQ4.1.touch (Touch.setCells (F := fun k => k = w1.heap.size) (.inl rfl) _ 2 w3 (Touch.refl _ _)) (fun hh => hne1 hh.symm), Touch.setCells (.inr (by omega)) _ 2 w3 hQ4.2⟩
  have rp : rowOf (w3.setCells w1.heap.size 2 pv.vals) w1.heap.size 0 13 = some (Wcc.vals ⟨optOf (o1, o2), pv⟩).toArray := hp4.row 0 13 (by simp [Wcc.len])
  obtain ⟨w4, hw4⟩ : ∃ w4, w4 = w3.setCells w1.heap.size 2 pv.vals := ⟨_, rfl⟩
  rw [← hw4] at rp hb4 hQ5
  have HW4 := Lib.hid hw4
  clear hQ1 hQ3 hQ4 hp4 hb1 hb3 hp1 hR2 hw4
  go_wp2_with (first | (refine wpList_store_part (by rfl) 27 _ _ (by rfl) w1.heap.size 2 pv.vals _ hp3 (by simp [Post.len, Wcc.len]) (by rfl) (by rfl) (by kernel_rfl) (Post.one _) ?_; rw [← HW4.out]) | fail)
  have hw : rWcc r = (⟨optOf (o1, o2), pv⟩, rs) := by unfold rWcc; rw [← HX.out]; simp only; rw [← HP.out]
  rw [hw] at hg
  refine (gotWcc_any g rs ⟨optOf (o1, o2), pv⟩ _ hQ5.1 hg).mono ?_
  rintro e w5 ⟨he, hb⟩
  have hb5 := hb4.stays hb
  have hQ6 := hQ5.new hb
  obtain ⟨y, hy⟩ : ∃ y, y = gotR Wcc.ok wccZ (⟨optOf (o1, o2), pv⟩, rs) := ⟨_, rfl⟩
  rw [← hy] at he
  have HY := Lib.hid hy
  have HWW := Lib.hid hw
  clear hy hw hb hb4 hQ5 rp
  subst he
  unfold gotV
  obtain ⟨y1, y2⟩ := y
  have HQ := Lib.hid (Reads.lay (cs := y1.vals) hQ6 hb5 rfl hne (Nat.le_refl _))
  clear hQ6
  go_wp2_with (first | (refine wpList_store_whole (by rfl) 31 _ _ (by rfl) w.heap.size y1.vals _ hb5 (by rfl) (by rfl) (by rfl) (by kernel_rfl) (Wcc.one _) ?_) | fail)
  refine ret_cells2 w.heap.size 0 y1.vals (.int .i64 y2) Tryz.results70 Tryz.underlying31 rfl (by kernel_rfl) rfl rfl HQ.out.2.range rfl ?_
  rw [HWW.out, ← HY.out]
  exact ⟨rfl, HQ.out.1⟩

/-- the first k options are read -/
def setOpt (s : Sett) (o : Opt) : Nat → Sett
  | 0 => { s with mode := o }
  | 1 => { s with uid := o }
  | 2 => { s with gid := o }
  | 3 => { s with size := o }
  | _ => { s with time := o }
def settK : Nat → Rs → Sett × Rs
  | 0, r => (settZ, r)
  | k + 1, r => (setOpt (settK k r).1 (optOf (rOpt (settK k r).2).1) k, (rOpt (settK k r).2).2)
def rSett (r : Rs) : Sett × Rs := settK 5 r
theorem settK_step (r : Rs) {k : Nat} (hk : k < 5) : setAt (settK k r).1.vals (2 * k) (optV (rOpt (settK k r).2).1) = (settK (k + 1) r).1.vals ∧ (settK (k + 1) r).2 = (rOpt (settK k r).2).2 := by
  match k, hk with
  | 0, _ | 1, _ | 2, _ | 3, _ | 4, _ => exact ⟨rfl, rfl⟩
theorem settK_len (r : Rs) (k : Nat) (h : r.s.length ≤ 9223372036854775807) : (settK k r).2.s.length ≤ 9223372036854775807 := by
  induction k with
  | zero => exact h
  | succ k ih => exact Nat.le_trans (rOpt_len ih) ih
theorem rSett_good {r : Rs} (h : r.s.length ≤ 9223372036854775807) : (rSett r).1.good :=
  ⟨rOpt_good h, rOpt_good (settK_len r 1 h), rOpt_good (settK_len r 2 h), rOpt_good (settK_len r 3 h), rOpt_good (settK_len r 4 h)⟩

end Go.Proofs.YtapcjojlkeaadaaGreatDoor
