/-
  Layer 9, walks: how the program takes an answer. Condition: at most 2048 bytes.
-/
import Derived.Test.YtlblenojhfeboaaDoorRpcWalkE
namespace Go.Proofs.YtlblenojhfeboaaDoor
open Go.RowKit
attribute [local go_sem ↓] Go.wp_at_zero Go.wp_at_succ
attribute [local go_sem] rowAt_ptr rowOf_drew rowOf_drewN rowOf_alloc_past rowOf_new
attribute [local go_sem] Message.at0 Message.lat0 Message.at1 Message.lat1 Message.at2 Message.lat2 Message.at3 Message.lat3 Message.at4 Message.lat4 Message.at5 Message.lat5 Message.at6 Message.lat6 Message.at7 Message.lat7 Message.at8 Message.lat8 Message.at9 Message.lat9 Message.sub0_10 Message.lsub0_10 Message.sub4_4 Message.lsub4_4 Message.len Cred.at0 Cred.lat0 Cred.at1 Cred.lat1 Cred.at2 Cred.lat2 Cred.at3 Cred.lat3 Cred.sub0_4 Cred.lsub0_4 Cred.len

attribute [local go_sem ↓] ldMessage ldCred

set_option maxRecDepth 20000 in
set_option maxHeartbeats 1600000 in
theorem answered_any (g : Nat) (x : Int) (s : List UInt8) (w : World) (hR : Rd w g ⟨s, 0⟩) (hl : s.length ≤ 2048) :
    Calls Tryd.prog 52 #[.agg #[.pointer (some ⟨g, 0, none⟩)], .int .i64 x] w (GotR (answeredG x s.length (fun k => wd (s.drop (4 * k))) (s.drop 16)) g w) := by
  obtain ⟨f, hf⟩ : ∃ f : Nat → Nat, f = fun k => wd (s.drop (4 * k)) := ⟨_, rfl⟩
  have hf' : ∀ k, wd (s.drop (4 * k)) = f k := fun k => by rw [hf]
  rw [← hf]
  have K : ∀ (k : Nat) (W : World), Rd W g ⟨s.drop (4 * k), 0⟩ → Calls Tryd.prog 50 #[.agg #[.pointer (some ⟨g, 0, none⟩)]] W fun e w' =>
      (4 * k + 4 ≤ s.length ∧ e = .returned (.int .i64 (f k)) ∧ Rd w' g ⟨s.drop (4 * (k + 1)), 0⟩ ∧ Touch (fun k => k = g) W w') ∨ (s.length < 4 * k + 4 ∧ e = .panicked missV ∧ Touch (fun k => k = g) W w') := fun k W h => by
    rw [← hf' k]; exact next_any g s k W h hl
  have K := Lib.hid K
  clear hf hf'
  go_enter Tryd.func52, Tryd.ntmps52
  go_wp2_with fail
  obtain ⟨w0, hw0⟩ : ∃ W, W = ((w.alloc (.cells #[.pointer (some ⟨g, 0, none⟩)] 75)).alloc (.cells #[.int .i64 0, .bool false, .bool false, .int .i64 0, .int .i64 0, .int .i64 0, .int .i64 0, .int .i64 0, .int .i64 0, .string ⟨#[]⟩] 42)).alloc (.cells #[.int .i64 x, .bool true, .bool false, .int .i64 0, .int .i64 0, .int .i64 0, .int .i64 0, .int .i64 0, .int .i64 0, .string ⟨#[]⟩] 42) := ⟨_, rfl⟩
  rw [← hw0]
  obtain ⟨b1, b2, b3, hB0⟩ : Blk w0 w.heap.size 75 [.pointer (some ⟨g, 0, none⟩)] ∧ Blk w0 (w.heap.size + 1) 42 (Message.vals ⟨0, false, false, 0, cred0, 0, []⟩) ∧ Blk w0 (w.heap.size + 1 + 1) 42 (Message.vals ⟨x, true, false, 0, cred0, 0, []⟩) ∧ Below w.heap.size w w0 := by
    rw [hw0]
    exact three_blks w [.pointer (some ⟨g, 0, none⟩)] (Message.vals ⟨0, false, false, 0, cred0, 0, []⟩) (Message.vals ⟨x, true, false, 0, cred0, 0, []⟩) 75 42 42
  have hR0 := hR.stays hB0
  have hT0 := Touch.of_below hB0 (fun k => k = g)
  have hlt := hR.lt
  have n1 : w.heap.size ≠ g := by omega
  have n2 : w.heap.size + 1 ≠ g := by omega
  have n3 : w.heap.size + 1 + 1 ≠ g := by omega
  clear hw0 hB0 hR
  refine (K.out 0 _ hR0).mono ?_
  rintro e w1 (⟨q0, rfl, hR1, hT1x⟩ | ⟨q0, rfl, hT1x⟩)
  case inr => exact And.intro rfl (GotR.no (by grind [answeredG]) (hT0.then_ hT1x))
  have hT1 := hT0.then_ hT1x
  have b1 := b1.touch hT1x n1
  have b2 := b2.touch hT1x n2
  have b3 := b3.touch hT1x n3
  clear hT0 hT1x hR0
  have c1 := b1.cell 0
  simp only [List.getElem?_cons_zero] at c1
  go_wp2_with fail
  refine (must_any _ _).mono ?_
  rintro e wm ⟨he, rfl⟩
  split at he
  case isFalse h0 =>
    subst he
    exact And.intro rfl (GotR.no (by grind [answeredG]) hT1)
  subst he
  go_wp2_with fail
  refine (K.out 1 _ hR1).mono ?_
  rintro e w2 (⟨q1, rfl, hR2, hT2x⟩ | ⟨q1, rfl, hT2x⟩)
  case inr => exact And.intro rfl (GotR.no (by grind [answeredG]) (hT1.then_ hT2x))
  have hT2 := hT1.then_ hT2x
  have b1 := b1.touch hT2x n1
  have b2 := b2.touch hT2x n2
  have b3 := b3.touch hT2x n3
  clear hT1 hT2x hR1 c1
  have c1 := b1.cell 0
  simp only [List.getElem?_cons_zero] at c1
  by_cases g1 : 1 < f 1
  case pos =>
    have g1' : ¬ (f 1 : Int) ≤ 1 := by omega
    go_wp2_with fail
    refine (must_any _ _).mono ?_
    rintro e wm ⟨he, rfl⟩
    simp only [Bool.false_eq_true, if_false] at he
    subst he
    exact And.intro rfl (GotR.no (by grind [answeredG]) hT2)
  have g1' : (f 1 : Int) ≤ 1 := by omega
  go_wp2_with fail
  refine (K.out 2 _ hR2).mono ?_
  rintro e w3 (⟨q2, rfl, hR3, hT3x⟩ | ⟨q2, rfl, hT3x⟩)
  case inr => exact And.intro rfl (GotR.no (by grind [answeredG]) (hT2.then_ hT3x))
  have hT3 := hT2.then_ hT3x
  have b1 := b1.touch hT3x n1
  have b2 := b2.touch hT3x n2
  have b3 := b3.touch hT3x n3
  clear hT2 hT3x hR2 c1
  have c1 := b1.cell 0
  simp only [List.getElem?_cons_zero] at c1
  go_wp2_with fail
  refine (must_any _ _).mono ?_
  rintro e wm ⟨he, rfl⟩
  split at he
  case isFalse h0 =>
    subst he
    exact And.intro rfl (GotR.no (by grind [answeredG]) hT3)
  subst he
  go_wp2_with fail
  refine (K.out 3 _ hR3).mono ?_
  rintro e w4 (⟨q3, rfl, hR4, hT4x⟩ | ⟨q3, rfl, hT4x⟩)
  case inr => exact And.intro rfl (GotR.no (by grind [answeredG]) (hT3.then_ hT4x))
  have hT4 := hT3.then_ hT4x
  have b1 := b1.touch hT4x n1
  have b2 := b2.touch hT4x n2
  have b3 := b3.touch hT4x n3
  clear hT3 hT4x hR3 c1
  have c1 := b1.cell 0
  simp only [List.getElem?_cons_zero] at c1
  obtain ⟨B, hBd⟩ : ∃ B, B = (f 1 == 1) := ⟨_, rfl⟩
  have hBe : ((f 1 : Int) == 1) = B := by rw [hBd, Bool.eq_iff_iff]; simp; omega
  rw [hBe]
  clear hBe
  have HBd := Lib.hid hBd
  clear hBd
  have c2 : w4.cell? ⟨w.heap.size + 1 + 1, 2, none⟩ = some (.bool false) := b3.cell 2
  have c8 : w4.cell? ⟨w.heap.size + 1 + 1, 8, none⟩ = some (.int .i64 0) := b3.cell 8
  have z2 := b3.frozen 2
  have z8 := b3.frozen 8
  obtain ⟨wz, hwz⟩ : ∃ V, V = (w4.setCell ⟨w.heap.size + 1 + 1, 2, none⟩ (.bool B)).setCell ⟨w.heap.size + 1 + 1, 8, none⟩ (.int .i64 (f 3)) := ⟨_, rfl⟩
  have hRz : Rd wz g ⟨s.drop 16, 0⟩ := by rw [hwz]; exact (hR4.far (fun e => n3 e) _).far (fun e => n3 e) _
  have b1z : Blk wz w.heap.size 75 [.pointer (some ⟨g, 0, none⟩)] := by rw [hwz]; exact ((b1.far (p := ⟨w.heap.size + 1 + 1, 2, none⟩) (by simp; omega) _).far (p := ⟨w.heap.size + 1 + 1, 8, none⟩) (by simp; omega) _)
  have b2z : Blk wz (w.heap.size + 1) 42 (Message.vals ⟨0, false, false, 0, cred0, 0, []⟩) := by rw [hwz]; exact ((b2.far (p := ⟨w.heap.size + 1 + 1, 2, none⟩) (by simp) _).far (p := ⟨w.heap.size + 1 + 1, 8, none⟩) (by simp) _)
  have b3z : Blk wz (w.heap.size + 1 + 1) 42 (Message.vals ⟨x, true, B, 0, cred0, f 3, []⟩) := by rw [hwz]; exact (b3.set_ 2 _).set_ 8 _
  have hTz : Touch (fun k => k = g) w wz := by
    rw [hwz]
    exact (hT4.setCell_ (.inr (by omega)) _).setCell_ (.inr (by omega)) _
  have hd : (s.drop 16).length = s.length - 16 := by simp
  have hL : rLeft ⟨s.drop 16, 0⟩ = s.length - 16 := by simp [rLeft]
  clear b1 b2 b3 hT4 hR4
  go_wp2_with fail
  rw [← hwz]
  refine (rLeft_any g _ _ hRz).mono ?_
  rintro e w15 ⟨rfl, rfl⟩
  rw [hL]
  clear hwz c1 c2 c8 z2 z8
  have c1 := b1z.cell 0
  simp only [List.getElem?_cons_zero] at c1
  by_cases hm : s.length % 4 = 0
  case neg =>
    have hm1 : ¬ ((s.length - 16 : Nat) : Int) % 4 = 0 := by omega
    have hm2 : ¬ ((s.length - 16 : Nat) : Int).tmod 4 = 0 := by rw [Int.tmod_eq_emod_of_nonneg (by omega)]; exact hm1
    generalize s.length - 16 = L at *
    go_wp2_with fail
    refine (must_any _ _).mono ?_
    rintro e wm ⟨he, rfl⟩
    split at he
    case isTrue h0 => simp_all
    subst he
    exact And.intro rfl (GotR.no (by grind [answeredG]) hTz)
  have hm1 : ((s.length - 16 : Nat) : Int) % 4 = 0 := by omega
  have hm2 : ((s.length - 16 : Nat) : Int).tmod 4 = 0 := by rw [Int.tmod_eq_emod_of_nonneg (by omega)]; exact hm1
  have hLb : s.length - 16 ≤ 2048 := by omega
  have hLm : (s.length - 16) % 4 = 0 := by omega
  generalize s.length - 16 = L at *
  go_wp2_with fail
  refine (must_any _ _).mono ?_
  rintro e wm ⟨he, rfl⟩
  split at he
  case isFalse h0 => simp_all
  subst he
  go_wp2_with fail
  refine (rest_any g _ _ hRz (by omega) (by omega)).mono ?_
  rintro e w16 ⟨rfl, hTr⟩
  have b2 := b2z.touch hTr n2
  have b3 := b3z.touch hTr n3
  have hT16 := hTz.then_ hTr
  clear b1z b2z b3z hTz hTr hRz c1
  have c9 : w16.cell? ⟨w.heap.size + 1 + 1, 9, none⟩ = some (.string (bs [])) := b3.cell 9
  have z9 := b3.frozen 9
  have b4 : Blk (w16.setCell ⟨w.heap.size + 1 + 1, 9, none⟩ (.string (bs (s.drop 16)))) _ _ (Message.vals ⟨x, true, B, 0, cred0, f 3, s.drop 16⟩) := b3.set_ 9 (.string (bs (s.drop 16)))
  have b2 := b2.far (p := ⟨w.heap.size + 1 + 1, 9, none⟩) (by simp) (.string (bs (s.drop 16)))
  have hT17 := hT16.setCell (p := ⟨w.heap.size + 1 + 1, 9, none⟩) (.inr (by simp only; omega)) (.string (bs (s.drop 16)))
  have r4 := b4.row 0 10 (by simp [Message.len])
  rw [show ((Message.vals ⟨x, true, B, 0, cred0, f 3, s.drop 16⟩).drop 0).take 10 = Message.vals ⟨x, true, B, 0, cred0, f 3, s.drop 16⟩ from rfl] at r4
  obtain ⟨m, hmd⟩ : ∃ m : Message, m = ⟨x, true, B, 0, cred0, f 3, s.drop 16⟩ := ⟨_, rfl⟩
  rw [← hmd] at r4 b4
  have HMD := Lib.hid hmd
  clear hmd
  go_wp2_with fail
  obtain ⟨wy, hwy⟩ : ∃ V, V = w16.setCell ⟨w.heap.size + 1 + 1, 9, none⟩ (.string (bs (s.drop 16))) := ⟨_, rfl⟩
  rw [← hwy] at b2 b4 hT17 r4 ⊢
  clear hwy c9 z9 b3 hT16
  refine (may9_any m _ (by rw [HMD.out]; simp only; omega)).mono ?_
  rintro e w17 ⟨rfl, hbM⟩
  have b2 := b2.stays hbM
  have b4 := b4.stays hbM
  have hT18 := hT17.then_ (Touch.of_below hbM _)
  clear hbM hT17 r4
  have r4 := b4.row 0 10 (by simp [Message.len])
  rw [show ((Message.vals m).drop 0).take 10 = Message.vals m from rfl] at r4
  cases hmay : m.may
  case false =>
    go_wp2_with fail
    refine (must_any _ _).mono ?_
    rintro e wm ⟨he, rfl⟩
    simp only [Bool.false_eq_true, if_false] at he
    subst he
    exact And.intro rfl (GotR.no (by have h1 := HMD.out; have h2 := HBd.out; clear HMD HBd; subst h1; subst h2; grind [answeredG]) hT18)
  go_wp2_with fail
  refine (must_any _ _).mono ?_
  rintro e wm ⟨he, rfl⟩
  simp only [if_true] at he
  subst he
  go_wp2_with (first | (refine wpList_store_whole (by rfl) 42 _ _ (by rfl) (w.heap.size + 1) (Message.vals m) _ b2 (by rfl) (by rfl) (by rfl) (by kernel_rfl) (Message.one _) ?_) | fail)
  refine ret_cells (w.heap.size + 1) 0 (Message.vals m) Tryd.results52 Tryd.underlying42 rfl (by kernel_rfl) rfl (b2.whole (by rfl)).range rfl ?_
  exact GotR.yes (by have h1 := HMD.out; have h2 := HBd.out; clear HMD HBd; subst h1; subst h2; grind [answeredG]) (Touch.setCells (.inr (by omega)) _ _ _ hT18)
end Go.Proofs.YtlblenojhfeboaaDoor
