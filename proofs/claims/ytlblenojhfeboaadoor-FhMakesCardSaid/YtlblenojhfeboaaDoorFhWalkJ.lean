/-
  Layer 3, walks: the program's Read. Condition: a text of less than 2^32 bytes; what is laid; the library's own number is some number.
-/
import Derived.Test.YtlblenojhfeboaaDoorFhLawB
import Derived.Test.YtlblenojhfeboaaDoorFhWalkI
import Derived.Test.YtlblenojhfeboaaDoorLater
namespace Go.Proofs.YtlblenojhfeboaaDoor
open Go.RowKit
attribute [local go_sem ↓] Go.wp_at_zero Go.wp_at_succ
attribute [local go_sem] rowAt_ptr rowOf_drew rowOf_drewN rowOf_alloc_past rowOf_new
attribute [local go_sem] Parts.at0 Parts.lat0 Parts.at1 Parts.lat1 Parts.at2 Parts.lat2 Parts.sub0_3 Parts.lsub0_3 Parts.len guardParts

attribute [local go_sem ↓] ldParts eqlParts eqlPartsZ

/-- the library's own number -/
def MxLen3 (w : World) : Prop := ∃ m, w.cell? ⟨1, 0, none⟩ = some (.int .i64 m)
/-- what Read gives: no handle, or one whose text it was; and of a handle's text that handle -/
def ReadP (t : List UInt8) (s : List UInt8) (n : Int) : Prop :=
  (s = [] ∧ n = 40 ∧ ∀ p : Parts, p.mayF = true → p.b ≤ 9223372036854775807 → t ≠ fhTx p) ∨ (n = 0 ∧ fhGood s = true ∧ fhText s = t)
theorem letter_idx (c : UInt8) : (-1 ≤ Lib.indexByte [111, 112] c ∧ Lib.indexByte [111, 112] c ≤ 1) ∧ (c = 111 → Lib.indexByte [111, 112] c = 0) ∧ (c = 112 → Lib.indexByte [111, 112] c = 1) := by
  refine ⟨?_, ?_, ?_⟩
  · simp only [Lib.indexByte]
    repeat' split
    all_goals first | omega | simp_all
  · rintro rfl; decide
  · rintro rfl; decide
theorem cut3_any (t : List UInt8) (w : World) (ht : t.length < 4294967281) (hm : MxLen3 w) : Calls Tryd.prog 41 #[.string (bs t), .string ⟨#[46]⟩] w fun e w' => e = .returned (.tuple #[.string (bs (Lib.cut t [46]).1), .string (bs (Lib.cut t [46]).2.1), .bool (Lib.cut t [46]).2.2]) ∧ Below w.heap.size w w' := by
  obtain ⟨m, hm⟩ := hm
  refine (Tryd.strings_Cut (bs t) ⟨#[46]⟩ m w ht hm).mono ?_
  rintro e w' ⟨rfl, n, rfl⟩
  exact ⟨rfl, bdN (Below.refl _ _) n⟩
theorem index3_any (c : UInt8) (w : World) : Calls Tryd.prog 42 #[.string ⟨#[111, 112]⟩, .string (bs [c])] w fun e w' => e = .returned (.int .i64 (Lib.indexByte [111, 112] c)) ∧ w = w' :=
  (Tryd.strings_Index_one ⟨#[111, 112]⟩ c w).mono fun _ _ ⟨h1, h2⟩ => ⟨h1, h2.symm⟩
theorem cut_len (t : List UInt8) : (Lib.cut t [46]).1.length ≤ t.length ∧ (Lib.cut t [46]).2.1.length ≤ t.length := by
  unfold Lib.cut
  split
  · simp only [List.length_take, List.length_drop]; omega
  · simp
theorem Stb.setc {w W : World} (h : Stb w W) {b o : Nat} {v : Value} (hb : w.heap.size ≤ b) : Stb w (W.setCell ⟨b, o, none⟩ v) := Stb.of (h.2.2.setCell (p := ⟨b, o, none⟩) hb v)
theorem Stb.re {w W : World} {o : Obj} (h : Stb w (W.alloc o)) (hl : w.heap.size ≤ W.heap.size) (o' : Obj) : Stb w (W.alloc o') :=
  Stb.of ⟨h.2.2.os, h.2.2.tape, h.2.2.output, by have := h.2.2.size; simpa using this, fun k hk => by
    rw [Below.heap_alloc _ _ _ (by omega), ← h.2.2.block k hk, Below.heap_alloc _ _ _ (by omega)]⟩
theorem le_al {w : World} {o : Obj} {n : Nat} (h : (w.drew.alloc o).heap.size ≤ n) : w.heap.size ≤ n := Nat.le_trans (by simp) h
theorem le_al3 {w : World} {o : Obj} {n : Nat} (h : (w.alloc o).drew.heap.size ≤ n) : w.heap.size ≤ n := Nat.le_trans (by simp) h
theorem le_al4 {w : World} {o : Obj} {n : Nat} (h : (w.alloc o).heap.size ≤ n) : w.heap.size ≤ n := Nat.le_trans (by simp) h
theorem le_dr {w : World} {n : Nat} (h : w.drew.heap.size ≤ n) : w.heap.size ≤ n := h
theorem lt_alloc4 {w : World} {o : Obj} {n : Nat} (h : (w.alloc o).heap.size ≤ n) : w.heap.size < n := Nat.lt_of_lt_of_le (by simp) h
theorem lt_alloc2 {w : World} {o : Obj} {n : Nat} (h : (w.drew.alloc o).heap.size ≤ n) : w.heap.size < n := Nat.lt_of_lt_of_le (by simp) h
theorem lt_alloc3 {w : World} {o : Obj} {n : Nat} (h : (w.alloc o).drew.heap.size ≤ n) : w.heap.size < n := Nat.lt_of_lt_of_le (by simp) h
/-- a handle's text, cut at its dot -/
theorem cut_text {p : Parts} : Lib.cut (fhTx p) [46] = ((if p.kind = 1 then 111 else 112) :: Lib.decDigits p.a.toNat, Lib.decDigits p.b.toNat, true) := by
  have h := cut_dot (l := (if p.kind = 1 then 111 else 112) :: Lib.decDigits p.a.toNat) (r := Lib.decDigits p.b.toNat) (fun c hc => by
    rcases List.mem_cons.1 hc with rfl | hc
    · split <;> decide
    · exact dig_dot (dec_dig _ c hc))
  rw [← h]
  congr 1
  unfold fhTx
  simp
/-- the parts that Read makes of a handle's text are its parts -/
theorem read_key {p : Parts} {x : UInt8} {r B : List UInt8} {i v1 v2 : Int} (hp : p.mayF = true) (hb : p.b ≤ 9223372036854775807) (h : (x :: r, B, true) = ((if p.kind = 1 then 111 else 112) :: Lib.decDigits p.a.toNat, Lib.decDigits p.b.toNat, true))
    (hi : (x = 111 → i = 0) ∧ (x = 112 → i = 1)) (h1 : NumP r v1) (h2 : NumP B v2) : (⟨i + 1, v1, v2⟩ : Parts) = p := by
  obtain ⟨hk, ⟨ha0, ha1⟩, hb0⟩ := (Parts.mayF_iff p).1 hp
  simp only [Prod.mk.injEq, List.cons.injEq, and_true] at h
  obtain ⟨⟨hx, hr⟩, hB⟩ := h
  have e1 := h1.2 p.a.toNat (by omega) hr
  have e2 := h2.2 p.b.toNat (by omega) hB
  obtain ⟨k, a, b⟩ := p
  simp only at *
  rw [Parts.mk.injEq]
  refine ⟨?_, by omega, by omega⟩
  rcases hk with rfl | rfl
  · have := hi.1 (by rw [hx]; rfl)
    omega
  · have := hi.2 (by rw [hx]; rfl)
    omega
set_option maxRecDepth 20000 in
set_option maxHeartbeats 4000000 in
theorem fhRead_any (t : List UInt8) (w : World) (ht : t.length ≤ 1000) (hW : FhW w) (hm : MxLen3 w) :
    Calls Tryd.prog 23 #[.string (bs t)] w fun e w' => ∃ s n, e = .returned (.tuple #[.string (bs s), .int .i64 n]) ∧ ReadP t s n ∧ Below w.heap.size w w' := by
  have K0 := cut3_any t w (by omega) hm
  have hcl := cut_len t
  have hform : ∀ p : Parts, t = fhTx p → Lib.cut t [46] = ((if p.kind = 1 then 111 else 112) :: Lib.decDigits p.a.toNat, Lib.decDigits p.b.toNat, true) := fun p e => by rw [e, cut_text]
  obtain ⟨⟨A, B, I⟩, hcut⟩ : ∃ x, Lib.cut t [46] = x := ⟨_, rfl⟩
  rw [hcut] at K0 hcl hform
  simp only at K0 hcl
  have HFORM := Lib.hid hform
  have K0 := Lib.hid K0
  have HW := Lib.hid hW
  have htz := bs_size t
  clear hform hcut hm hW
  cases I with
  | false =>
    have HP : ReadP t [] 40 := .inl ⟨rfl, rfl, fun p _ _ e => by have := HFORM.out p e; simp at this⟩
    have HP := Lib.hid HP
    clear HFORM
    go_enter Tryd.func23, Tryd.ntmps23
    go_wp2_with fail
    refine K0.out.mono ?_
    rintro e w1 ⟨rfl, hb1⟩
    go_wp2
    go_ret2
    exact ⟨[], 40, rfl, HP.out, hb1⟩
  | true =>
    match A, HFORM, K0, hcl with
    | [], HFORM, K0, hcl =>
      have HP : ReadP t [] 40 := .inl ⟨rfl, rfl, fun p _ _ e => by have := HFORM.out p e; simp at this⟩
      have HP := Lib.hid HP
      clear HFORM
      go_enter Tryd.func23, Tryd.ntmps23
      go_wp2_with fail
      refine K0.out.mono ?_
      rintro e w1 ⟨rfl, hb1⟩
      go_wp2
      go_ret2
      exact ⟨[], 40, rfl, HP.out, hb1⟩
    | x :: r, HFORM, K0, hcl =>
      obtain ⟨hi, hx1, hx2⟩ := letter_idx x
      have HIX := Lib.hid (And.intro hx1 hx2)
      have KI := fun W => index3_any x W
      obtain ⟨i, hie⟩ : ∃ i, i = Lib.indexByte [111, 112] x := ⟨_, rfl⟩
      have K1 := Lib.hid (fun W => number3_any r W (by simp at hcl; omega))
      have K2 := Lib.hid (fun W => number3_any B W (by simp at hcl; omega))
      have KT := Lib.hid (fun (s : List UInt8) (W : World) (h : s.length ≤ 16) (hs : FhW W) => fhText_any s W (by omega) hs.1 hs.2)
      rw [← hie] at hi
      simp only [← hie] at KI
      have HIE := Lib.hid hie
      obtain ⟨A, hA⟩ : ∃ A, A = x :: r := ⟨_, rfl⟩
      rw [← hA] at K0
      have hc1 : (bs A).extract 0 1 = bs [x] := by rw [hA, bs_take]; rfl
      have hc2 : (bs A).extract 1 A.length = bs r := by rw [bs_drop, hA]; rfl
      have hAz := bs_size A
      have a1 : (1 : Int) ≤ (A.length : Int) := by rw [hA]; simp; omega
      have a2 : ¬ (A.length : Int) < 1 := by omega
      have a3 : (A == []) = false := by rw [hA]; rfl
      have KI := Lib.hid KI
      have e1 : IntKind.i64.wrap (i + 1) = i + 1 := IntWalk.i64_in _ (by omega)
      have HA := Lib.hid hA
      have HI := Lib.hid hi
      clear hcl hx1 hx2 hie hA hi
      go_enter Tryd.func23, Tryd.ntmps23
      go_wp2_with fail
      refine K0.out.mono ?_
      rintro e w1 ⟨rfl, hb1⟩
      have HB1 := Lib.hid hb1
      clear hb1 K0
      go_upto_region 4 with fail
      go_region_held3 (fun W => Stb w1 W) (first | assumption | exact Stb.start | (refine Stb.call ?_ hbr; first | assumption | exact Stb.start | (refine Stb.alloc ?_ _; exact Stb.start) | exact Stb.of (((Below.refl _ _).alloc (Nat.le_refl _) _).drew)) | (refine Stb.call ?_ hbB; first | assumption) | (refine Stb.alloc ?_ _; first | assumption | exact Stb.start) | (apply Stb.re; assumption; omega) | exact Stb.of (((Below.refl _ _).alloc (Nat.le_refl _) _).drew) | (refine Stb.setc (Stb.setc (Stb.setc ?_ ?_) ?_) ?_ <;> first | assumption | exact Nat.le_refl _ | omega)) (first
        | (go_at_call 42; refine (KI.out _).mono ?_; rintro e w2 ⟨rfl, rfl⟩)
        | (go_at_call_of 43 (bs r); refine (K1.out _).mono ?_; rintro e w2 ⟨v1, rfl, hv1, hbr⟩; have hclr := @Below.cell _ _ _ hbr; have hfrr := @Below.frozen _ _ _ hbr; (first | (have hsr := lt_alloc3 hbr.size; have hszr := Nat.le_of_lt hsr) | (have hsr := lt_alloc2 hbr.size; have hszr := Nat.le_of_lt hsr) | (have hszr := le_dr hbr.size)))
        | (go_at_call_of 43 (bs B); refine (K2.out _).mono ?_; rintro e w3 ⟨v2, rfl, hv2, hbB⟩; have hclB := @Below.cell _ _ _ hbB; have hfrB := @Below.frozen _ _ _ hbB; (first | (have hsB := lt_alloc4 hbB.size; have hszB := Nat.le_of_lt hsB) | (have hszB := hbB.size))))
      all_goals
        obtain ⟨P, hP⟩ : ∃ P : Parts, P = ⟨i + 1, v1, v2⟩ := ⟨_, rfl⟩
        have hkey : ∀ p : Parts, p.mayF = true → p.b ≤ 9223372036854775807 → t = fhTx p → P = p := fun p h1 h2 e => by
          rw [hP]
          exact read_key h1 h2 (HFORM.out p e) (by rw [HIE.out]; exact HIX.out) hv1 hv2
        have hmach : P.mach := by
          have h1 := hv1.1
          have h2 := hv2.1
          rw [hP]
          exact ⟨by simp only; omega, by simp only; omega⟩
        have K3 := fun W => fhMake_any P W hmach
        have hpv : P.vals = [.int .i64 (i + 1), .int .i64 v1, .int .i64 v2] := by rw [hP]; rfl
        first
        | (obtain ⟨w4, hw4⟩ : ∃ w4, w4 = w3.alloc (.cells #[.int .i64 (i + 1), .int .i64 v1, .int .i64 v2] 24) := ⟨_, rfl⟩
           rw [← hw4]
           have hse : Stb w1 w4 := by rw [hw4]; assumption
           have hbk : Blk w4 w3.heap.size 24 P.vals := by rw [hw4, hpv]; exact Blk.new _ _ _
           obtain ⟨b, hb⟩ : ∃ b, b = w3.heap.size := ⟨_, rfl⟩
           rw [← hb] at hbk ⊢
           clear hw4 hb)
        | (obtain ⟨w4, hw4⟩ : ∃ w4, w4 = ((w3.setCell ⟨w2.heap.size, 0, none⟩ (.int .i64 (i + 1))).setCell ⟨w2.heap.size, 1, none⟩ (.int .i64 v1)).setCell ⟨w2.heap.size, 2, none⟩ (.int .i64 v2) := ⟨_, rfl⟩
           rw [← hw4]
           have hse : Stb w1 w4 := by rw [hw4]; assumption
           have hbk : Blk w4 w2.heap.size 24 P.vals := by rw [hw4, hpv]; exact ((((Blk.new w2 24 [.int .i64 0, .int .i64 0, .int .i64 0]).stays hbB).set_ 0 _).set_ 1 _).set_ 2 _
           obtain ⟨b, hb⟩ : ∃ b, b = w2.heap.size := ⟨_, rfl⟩
           rw [← hb] at hbk ⊢
           clear hw4 hb)
        | (obtain ⟨w4, hw4⟩ : ∃ w4, w4 = ((w3.setCell ⟨w1.heap.size, 0, none⟩ (.int .i64 (i + 1))).setCell ⟨w1.heap.size, 1, none⟩ (.int .i64 v1)).setCell ⟨w1.heap.size, 2, none⟩ (.int .i64 v2) := ⟨_, rfl⟩
           rw [← hw4]
           have hse : Stb w1 w4 := by rw [hw4]; assumption
           have hbk : Blk w4 w1.heap.size 24 P.vals := by rw [hw4, hpv]; exact (((((Blk.new w1 24 [.int .i64 0, .int .i64 0, .int .i64 0]).drew.stays hbr).stays hbB).set_ 0 _).set_ 1 _).set_ 2 _
           obtain ⟨b, hb⟩ : ∃ b, b = w1.heap.size := ⟨_, rfl⟩
           rw [← hb] at hbk ⊢
           clear hw4 hb)
        have hB5 : Below w1.heap.size w1 w4 := hse.2.2
        have hrow := hbk.row 0 3 (by simp [Parts.len])
        rw [show (P.vals.drop 0).take 3 = P.vals from rfl] at hrow
        have HB5 := Lib.hid (below_then HB1.out hB5)
        clear hB5 hse hbk hpv
        clear hbr hclr hfrr hszr hbB hclB hfrB hszB
        try clear hsr
        try clear hsB
        clear ‹Stb w1 _›
        cases hM : P.mayF with
        | false =>
          have HP := Lib.hid (show ReadP t [] 40 from .inl ⟨rfl, rfl, fun p h1 h2 e => by have := hkey p h1 h2 e; rw [this, h1] at hM; cases hM⟩)
          rw [make_no hM] at K3
          have K3 := Lib.hid K3
          clear hM hkey hmach hP hv1 hv2
          go_wp2_with fail
          refine (K3.out _).mono ?_
          rintro e w5 ⟨rfl, hb5⟩
          go_wp2
          go_ret2
          exact ⟨[], 40, rfl, HP.out, below_then HB5.out hb5⟩
        | true =>
          have hX := fhText_make hM hmach.2
          have hg := (parts_good hM hmach.2).1
          have hl := fhB_len P
          have hne : (fhB P == []) = false := beq_false_of_ne (fhB_ne P)
          rw [make_ok hM] at K3
          have K4 := fun W (hs : FhW W) => KT.out (fhB P) W (by omega) hs
          simp only [hX] at K4
          have HG := Lib.hid (And.intro hg hX)
          by_cases hT : fhTx P = t
          · have hxt : (fhTx P == t) = true := by rw [hT]; simp
            have HP := Lib.hid (show ReadP t (fhB P) 0 from .inr ⟨rfl, hg, hX.trans hT⟩)
            have K3 := Lib.hid K3
            have K4 := Lib.hid K4
            clear hM hkey hmach hP hv1 hv2 hX hg hl hT HG
            generalize fhB P = S at *
            generalize fhTx P = X at *
            go_wp2_with fail
            refine (K3.out _).mono ?_
            rintro e w5 ⟨rfl, hb5⟩
            have hb5 := below_then HB5.out hb5
            go_wp2_with fail
            refine (K4.out _ (HW.out.below hb5)).mono ?_
            rintro e w6 ⟨rfl, hb6⟩
            go_wp2
            go_ret2
            exact ⟨S, 0, rfl, HP.out, below_then hb5 hb6⟩
          · have hxt : (fhTx P == t) = false := beq_false_of_ne hT
            have HP := Lib.hid (show ReadP t [] 40 from .inl ⟨rfl, rfl, fun p h1 h2 e => hT (by rw [hkey p h1 h2 e]; exact e.symm)⟩)
            have K3 := Lib.hid K3
            have K4 := Lib.hid K4
            clear hM hkey hmach hP hv1 hv2 hX hg hl hT HG
            generalize fhB P = S at *
            generalize fhTx P = X at *
            go_wp2_with fail
            refine (K3.out _).mono ?_
            rintro e w5 ⟨rfl, hb5⟩
            have hb5 := below_then HB5.out hb5
            go_wp2_with fail
            refine (K4.out _ (HW.out.below hb5)).mono ?_
            rintro e w6 ⟨rfl, hb6⟩
            go_wp2
            go_ret2
            exact ⟨[], 40, rfl, HP.out, below_then hb5 hb6⟩
end Go.Proofs.YtlblenojhfeboaaDoor
