/-
  Layer 8, walks: the document takes the numbers of results. Conditions: a reader and results at blocks of their own, no numbers yet.
-/
import Derived.Test.YtapcjojlkeaadaaGreatDoorP34
namespace Go.Proofs.YtapcjojlkeaadaaGreatDoor
open Go.RowKit
attribute [local go_sem ↓] Go.wp_at_zero Go.wp_at_succ
attribute [local go_sem] rowAt_ptr rowOf_drew rowOf_drewN rowOf_alloc_past rowOf_new
attribute [local go_sem ↓] ldPost ldWcc

attribute [local go_sem] laterLd

def FB (g b B k : Nat) : Prop := k = g ∨ k = b ∨ B ≤ k
theorem Touch.ofB {F : Nat → Prop} {B : Nat} {w w' : World} (h : Below B w w') (hF : ∀ k, B ≤ k → F k) : Touch F w w' :=
  ⟨h.os, h.tape, h.output, h.size, fun k _ hn => h.block k (Nat.lt_of_not_le fun hk2 => hn (hF k hk2))⟩
theorem RdF.belowB {w w' : World} {g B : Nat} {r : Rs} (h : RdF w g r) (hb : Below B w w') (hg : g < B) : RdF w' g r := by
  obtain ⟨S, a, h, k⟩ := h
  exact ⟨S, a, h.below hb hg, k⟩

theorem done57 {g b B : Nat} {q : Rs} {z : Reply} {w W w' : World} {A : Option Addr} {n c : Nat} {rows : List (List Value)} (hg : g < B) (hb : b < B) (hne : b ≠ g) (hR : RdF W g q) (hC : Blk W b 35 z.vals) (hT : Touch (FB g b B) w W) (hR' : RowS w' B 3 1 (.slice A n c) rows) (hb' : Below B W w') :
    RdF (w'.setCell ⟨b, 57, none⟩ (.slice A n c)) g q ∧ Blk (w'.setCell ⟨b, 57, none⟩ (.slice A n c)) b 35 ({ z with ua := A, un := n, uc := c } : Reply).vals ∧ RowS (w'.setCell ⟨b, 57, none⟩ (.slice A n c)) B 3 1 (.slice A n c) rows ∧ Touch (FB g b B) w (w'.setCell ⟨b, 57, none⟩ (.slice A n c)) := by
  have hT1 : Touch (fun k => k = b) w' (w'.setCell ⟨b, 57, none⟩ (.slice A n c)) := (Touch.refl (fun k => k = b) w').setCell_ (g := b) (o := 57) (.inl rfl) (.slice A n c)
  exact ⟨(hR.belowB hb' hg).touch hT1 (fun e => hne e.symm), (hC.below hb' hb).set_ 57 (.slice A n c), RowS.touch hR' hT1 (fun k hk hf => by have := (RowS.lt hR' k hk).1; omega), (hT.then_ (Touch.ofB hb' fun k hk => .inr (.inr hk))).then_ (hT1.mono fun k _ hk => .inr (.inl hk))⟩

set_option maxRecDepth 20000 in
set_option maxHeartbeats 3200000 in
theorem ftake_n (g b B : Nat) (z : Reply) (r : Rs) (w : World) (hR : RdF w g r) (hA : Blk w b 35 z.vals) (hne : b ≠ g) (hgB : g < B) (hbB : b < B) (hB : B ≤ w.heap.size) (h0 : z.ua = none ∧ z.un = 0 ∧ z.uc = 0) :
    Calls Tryz.prog 22 #[.pointer (some ⟨g, 0, none⟩), .pointer (some ⟨b, 0, none⟩), .int .u8 110] w fun e w' => e = .returned (.bool (numsOk r)) ∧
      (numsOk r = true → ∃ A c, Blk w' b 35 ({ z with ua := A, un := (numsK (rU32 r).2 (rU32 r).1).1.length, uc := c } : Reply).vals ∧ RdF w' g (numsK (rU32 r).2 (rU32 r).1).2 ∧ RowS w' B 3 1 (.slice A (numsK (rU32 r).2 (rU32 r).1).1.length c) ((numsK (rU32 r).2 (rU32 r).1).1.map int1)) ∧ Touch (FB g b B) w w' := by
  obtain ⟨i0, hi, hz, hsize, hby⟩ := info_parts infoIntB
  have K := Lib.hid (refU4_any g r w hR)
  have hgl := hR.lt
  have hbl := hA.lt
  have hne2 : ¬ g = b := fun e => hne e.symm
  unfold numsOk
  generalize rU32 r = y at *
  obtain ⟨n, q⟩ := y
  simp only at K ⊢
  by_cases hn : 16 < n
  · have hn' : (16 : Int) < n := by omega
    have HO := Lib.hid (show (decide (n ≤ 16) && ((numsK q n).2.e == 0)) = false by simp; omega)
    go_enter Tryz.func22, Tryz.ntmps22
    go_wp2_with fail
    refine K.out.mono ?_
    rintro e w1 ⟨rfl, hQ⟩
    have HQ := Lib.hid (hQ.2.mono (G := FB g b B) fun _ _ h => .inl h)
    clear hQ
    go_wp2
    go_ret
    rw [HO.out]
    exact ⟨rfl, fun h => absurd h (by simp), HQ.out⟩
  have hn' : ¬ (16 : Int) < n := by omega
  go_enter Tryz.func22, Tryz.ntmps22
  go_wp2_with fail
  refine K.out.mono ?_
  rintro e w1 ⟨rfl, hQ⟩
  have hA1 := hQ.keeps hA hne
  have hT1 := hQ.2.mono (G := FB g b B) fun _ _ h => .inl h
  have HI := Lib.hid (And.intro hQ.1 (And.intro hA1 hT1))
  have hz0 : ({ z with ua := none, un := 0, uc := 0 } : Reply) = z := by
    obtain ⟨h1, h2, h3⟩ := h0
    cases z
    simp only at h1 h2 h3
    subst h1 h2 h3
    rfl
  have HZ := Lib.hid hz0
  clear hQ hA1 hT1 hA hR K h0 hz0
  go_wp2
  go_loopw [9] (fun iv wr => ∃ (k : Nat) (A : Option Addr) (c : Nat), k ≤ n ∧ iv = .int .i64 k ∧ RdF wr g (numsK q k).2 ∧ (∀ j, j < k → (numsK q j).2.e = 0) ∧ Blk wr b 35 ({ z with ua := A, un := k, uc := c } : Reply).vals ∧ RowS wr B 3 1 (.slice A k c) ((numsK q k).1.map int1) ∧ Touch (FB g b B) w wr) (fun iv _ => n - (intOf iv).toNat)
  case atStart => exact ⟨0, none, 0, Nat.zero_le _, rfl, HI.out.1, fun _ h => absurd h (Nat.not_lt_zero _), by rw [HZ.out]; exact HI.out.2.1, RowS.none_, HI.out.2.2⟩
  case round =>
    clear HI HZ
    obtain ⟨k, A, c, hk, rfl, hR, hall, hA, hRow, hT⟩ := hrel
    have hE := ReadsF.err hR
    by_cases hlt : k < n
    · have hlt' : (k : Int) < n := by omega
      by_cases he : (numsK q k).2.e = 0
      · have hs1 : numsK q (k + 1) = ((numsK q k).1 ++ [((rU64 (numsK q k).2).1 : Int)], (rU64 (numsK q k).2).2) := rfl
        have hone := numsK_one q k
        have hall2 : ∀ j, j < k + 1 → (numsK q j).2.e = 0 := fun j hj => by
          rcases Nat.lt_or_ge j k with h | h
          · exact hall j h
          · obtain rfl : j = k := by omega
            exact he
        have HALL := Lib.hid hall2
        have K := Lib.hid (refU8_any g (numsK q k).2 wr.drew hR)
        rw [he] at hE
        generalize (numsK q k).2 = qk at *
        generalize rU64 qk = y at *
        obtain ⟨x, q1⟩ := y
        simp only at K hs1
        have c57 : wr.cell? ⟨b, 57, none⟩ = some (.slice A k c) := hA.cell 57
        have f57 := hA.frozen 57
        have hsw := hT.size
        have S0 : wr.drew.cell? ⟨b, 57, none⟩ = some (.slice A k c) ∧ wr.drew.frozen? ⟨b, 57, none⟩ = false := ⟨c57, f57⟩
        have HS := Lib.hid hs1
        have HT := Lib.hid hT
        have HA0 := Lib.hid hA
        have HR0 := Lib.hid hRow
        have hap := fun W (hQ : ReadsF g q1 wr.drew W) => RowS.append (P := Tryz.prog) 33 33 i0 Tryz.underlying33 hi hz hsize hby rfl (by omega) (by omega) (RowS.touch (show RowS wr.drew _ _ _ _ _ from hRow) hQ.2 (fun j hj hg => by have := (RowS.lt hRow j hj).1; omega)) (by have := hQ.2.size; have : wr.drew.heap.size = wr.heap.size := rfl; omega) (int1 (x : Int)) rfl (by simp [int1, Value.oneCell']) (by rw [List.length_map, hone]; omega)
        have HAP := Lib.hid hap
        have hiw : IntKind.i64.wrap ((k : Int) + 1) = (k : Int) + 1 := IntWalk.i64_in _ (by omega)
        clear hap hall hall2 hR hRow hT hs1 hA
        go_wp2_with fail
        rw [laterLd_eq 33 (.tmp 124)]
        go_region_held3 (fun _ => True) (trivial) (first
          | (go_at_call 19; refine K.out.mono ?_; rintro e w2 ⟨rfl, hQ⟩; have S2 : w2.cell? ⟨b, 57, none⟩ = some (.slice A k c) ∧ w2.frozen? ⟨b, 57, none⟩ = false := ⟨(hQ.keeps (show Blk wr.drew _ _ _ from HA0.out) hne).cell 57, (hQ.keeps (show Blk wr.drew _ _ _ from HA0.out) hne).frozen 57⟩; have S3 : (w2.alloc (.cells #[.int .i64 x] 3)).cell? ⟨b, 57, none⟩ = some (.slice A k c) ∧ (w2.alloc (.cells #[.int .i64 x] 3)).frozen? ⟨b, 57, none⟩ = false := ⟨((hQ.keeps (show Blk wr.drew _ _ _ from HA0.out) hne).alloc _).cell 57, ((hQ.keeps (show Blk wr.drew _ _ _ from HA0.out) hne).alloc _).frozen 57⟩; have HA := Lib.hid (HAP.out w2 hQ); have HQ := Lib.hid hQ; clear hQ)
          | (refine step_append_by (by rfl) (.tmp 125) (.tmp 128) #[33, 33] (by rfl) _ _ (by rfl) (by rfl) HA.out ?_; rintro v' w' ⟨hR', hb'⟩; obtain ⟨A', c', rfl, -⟩ := RowS.at_ hR'; have S4 : w'.cell? ⟨b, 57, none⟩ = some (.slice A k c) ∧ w'.frozen? ⟨b, 57, none⟩ = false := ⟨((HQ.out.keeps (show Blk wr.drew _ _ _ from HA0.out) hne).below (hb' w2 (Below.refl _ _)) hbB).cell 57, ((HQ.out.keeps (show Blk wr.drew _ _ _ from HA0.out) hne).below (hb' w2 (Below.refl _ _)) hbB).frozen 57⟩))
        all_goals
          have hn1 : (List.map int1 (numsK q k).fst ++ [int1 (x : Int)]).length = k + 1 := by simp [hone]
          rw [hn1] at hR'
          have hD := done57 hgB hbB hne HQ.out.1 (HQ.out.keeps (show Blk wr.drew _ _ _ from HA0.out) hne) ((HT.out.drew).then_ (HQ.out.2.mono (G := FB g b B) fun _ _ h => .inl h)) hR' (hb' w2 (Below.refl _ _))
          have HD := Lib.hid hD
          clear hD hR' hb' S0 S2 S3 S4 HQ HA HAP HA0 HT c57 f57 K hn1 HR0
          go_wp2
          go_roundw
          case rel => exact ⟨k + 1, A', c', by omega, by go_num, by rw [HS.out]; exact HD.out.1, HALL.out, HD.out.2.1, by rw [HS.out, List.map_append]; exact HD.out.2.2.1, HD.out.2.2.2⟩
          case measure => simp [intOf]; omega
      · have hne0 : ((numsK q k).2.e == 0) = false := by simpa using he
        have hbad := numsK_stick he n (by omega)
        have HO := Lib.hid (show (decide (n ≤ 16) && ((numsK q n).2.e == 0)) = false by simp [hbad])
        have HT := Lib.hid hT
        generalize (numsK q k).2.e = ek at *
        clear hT hRow hA hall hR
        go_wp2
        go_ret
        rw [HO.out]
        exact ⟨rfl, fun h => absurd h (by simp), HT.out⟩
    · obtain rfl : k = n := by omega
      have HF := Lib.hid (And.intro hR (And.intro hA (And.intro hRow hT)))
      have hone := numsK_one q k
      obtain ⟨ek, hek⟩ : ∃ v, v = (numsK q k).2.e := ⟨_, rfl⟩
      have HO := Lib.hid (show (decide (k ≤ 16) && ((numsK q k).2.e == 0)) = (ek == 0) by
        have : decide (k ≤ 16) = true := by simp; omega
        rw [this, Bool.true_and, hek])
      rw [← hek] at hE
      clear hT hRow hA hall hR hek
      by_cases h0 : ek = 0
      · subst h0
        go_wp2
        go_ret
        rw [HO.out, hone]
        exact ⟨rfl, fun _ => ⟨A, c, HF.out.2.1, HF.out.1, HF.out.2.2.1⟩, HF.out.2.2.2⟩
      · have h0' : (ek == 0) = false := by simpa using h0
        go_wp2
        go_ret
        rw [HO.out, h0']
        exact ⟨rfl, fun h => absurd h (by simp), HF.out.2.2.2⟩
end Go.Proofs.YtapcjojlkeaadaaGreatDoor
