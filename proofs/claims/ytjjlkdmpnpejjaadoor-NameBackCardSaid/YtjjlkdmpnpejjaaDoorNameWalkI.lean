/-
  Layer 4, walks: the program's Read. Condition: a machine text.
-/
import Derived.Test.YtjjlkdmpnpejjaaDoorNameWalkH
namespace Go.Proofs.YtjjlkdmpnpejjaaDoor
open Go.RowKit
attribute [local go_sem ↓] Go.wp_at_zero Go.wp_at_succ
attribute [local go_sem] rowAt_ptr rowOf_drew rowOf_drewN rowOf_alloc_past rowOf_new

/-- what Read tells -/
def readF (t : List UInt8) : List UInt8 × Int :=
  if t = [37] then ([], 0) else
  match unhex t with
  | none => ([], 40)
  | some s => if s = [] ∨ showN s ≠ t then ([], 40) else (s, 0)
theorem readF_bad {t : List UInt8} (h : t ≠ [37]) (hu : unhex t = none) : readF t = ([], 40) := by unfold readF; rw [if_neg h, hu]
theorem readF_some {t s : List UInt8} (h : t ≠ [37]) (hu : unhex t = some s) : readF t = if s = [] ∨ showN s ≠ t then ([], 40) else (s, 0) := by unfold readF; rw [if_neg h, hu]
theorem unhex_37 (r : List UInt8) : unhex (37 :: r) = match r with
    | a :: b :: r' => if valD a < 0 ∨ valD b < 0 then none else (unhex r').map (UInt8.ofNat ((valD a).toNat * 16 + (valD b).toNat) :: ·)
    | _ => none := by
  conv => lhs; unfold unhex
  exact if_neg (by decide)
theorem or_fin64 (a b : Nat) (ha : a < 16) (hb : b < 16) : bits BinOp.or IntKind.i64 ((a : Int) * 16) (b : Int) = ((a * 16 + b : Nat) : Int) := by
  have h : ∀ a b : Fin 16, bits BinOp.or IntKind.i64 (((a.val : Nat) : Int) * 16) ((b.val : Nat) : Int) = ((a.val * 16 + b.val : Nat) : Int) := by decide
  exact h ⟨a, ha⟩ ⟨b, hb⟩
theorem unhex_cut {t : List UInt8} {k : Nat} (hk : k < t.length) (h : t[k] = 37) (h2 : ¬ k + 2 < t.length) : unhex (t.drop k) = none := by
  rw [← List.getElem_cons_drop hk, h, unhex_37]
  have hl : (t.drop (k + 1)).length ≤ 1 := by simp; omega
  generalize t.drop (k + 1) = r at *
  match r, hl with
  | [], _ => rfl
  | [a], _ => rfl
theorem unhex_three {t : List UInt8} {k : Nat} (h : k + 2 < t.length) (hc : t[k]'(by omega) = 37) :
    unhex (t.drop k) = if valD (t[k + 1]'(by omega)) < 0 ∨ valD t[k + 2] < 0 then none else (unhex (t.drop (k + 3))).map (UInt8.ofNat ((valD (t[k + 1]'(by omega))).toNat * 16 + (valD t[k + 2]).toNat) :: ·) := by
  rw [← List.getElem_cons_drop (show k < t.length by omega), ← List.getElem_cons_drop (show k + 1 < t.length by omega), ← List.getElem_cons_drop (show k + 1 + 1 < t.length by omega), hc, unhex_hex]
def Read4 (p : List UInt8 × Int) (w : World) (e : Ending) (w' : World) : Prop := e = .returned (.tuple #[.string (bs p.1), .int .i64 p.2]) ∧ Below w.heap.size w w'
theorem Read4.of {p : List UInt8 × Int} {w w' : World} {s : List UInt8} {n : Int} (h : p = (s, n)) (hb : Below w.heap.size w w') : Read4 p w (.returned (.tuple #[.string (bs s), .int .i64 n])) w' := by subst h; exact ⟨rfl, hb⟩

set_option maxRecDepth 20000 in
set_option maxHeartbeats 1600000 in
theorem read4_any (t : List UInt8) (w : World) (hl : t.length ≤ 1000) : Calls Tryd.prog 19 #[.string (bs t)] w (Read4 (readF t) w) := by
  have hsz := bs_size t
  obtain ⟨i0, hi, hz, hsize, hby⟩ := info_parts infoByteB
  by_cases h0 : t = [37]
  · have HR := Lib.hid (show readF t = ([], 0) by unfold readF; rw [if_pos h0])
    generalize readF t = F at *
    subst h0
    go_enter Tryd.func19, Tryd.ntmps19
    go_wp2
    go_ret2
    exact Read4.of HR.out (Below.refl _ _)
  have h0b : (t == [37]) = false := by simpa using h0
  have HBAD := Lib.hid (fun h => readF_bad h0 h)
  have HSOME := Lib.hid (fun s h => readF_some (s := s) h0 h)
  generalize readF t = F at *
  clear h0
  have HI := Lib.hid (And.intro hi (And.intro hz (And.intro hsize hby)))
  clear hi hz hsize hby
  go_enter Tryd.func19, Tryd.ntmps19
  go_wp2
  go_loopw [4, 5] (fun v iv wr => ∃ (k : Nat) (o : List UInt8), k ≤ t.length ∧ o.length ≤ k ∧ iv = .int .i64 k ∧ unhex t = (unhex (t.drop k)).map (o ++ ·) ∧ RowB wr w.heap.size 5 v o ∧ Below w.heap.size w wr) (fun _ iv _ => t.length - (intOf iv).toNat)
  case atStart => exact ⟨0, [], Nat.zero_le _, Nat.le_refl _, rfl, by simp, .inl ⟨rfl, rfl⟩, Below.refl _ _⟩
  case round =>
    obtain ⟨k, o, hk, hol, rfl, hun, hR, hb⟩ := hrel
    have HUN := Lib.hid hun
    have HB := Lib.hid hb
    have HRW := Lib.hid hR
    by_cases hlt : k < t.length
    · have hg : (bs t)[k]'(by rw [hsz]; exact hlt) = t[k] := rfl
      have hk0 : (0 : Int) ≤ (k : Int) := Int.natCast_nonneg _
      have hk1 : (k : Int) < (t.length : Int) := by omega
      by_cases hc : t[k] = 37
      · have hc2 : ((t[k].toNat : Int) != 37) = false := by rw [hc]; rfl
        by_cases h2 : k + 2 < t.length
        · have h3 := unhex_three h2 hc
          have hg1 : (bs t)[k + 1]'(by rw [hsz]; omega) = t[k + 1]'(by omega) := rfl
          have hg2 : (bs t)[k + 2]'(by rw [hsz]; omega) = t[k + 2]'(by omega) := rfl
          have hk2 : (k : Int) + 1 < (t.length : Int) := by omega
          have hk3 : (k : Int) + 2 < (t.length : Int) := by omega
          have hk4 : ¬ (t.length : Int) ≤ (k : Int) + 2 := by omega
          clear hR hb hc
          generalize t[k + 1]'(by omega) = a at *
          generalize t[k + 2]'(by omega) = b at *
          have ha16 := valD_lt a
          have hb16 := valD_lt b
          have HVA := Lib.hid (fun W => value4_any a W)
          have HVB := Lib.hid (fun W => value4_any b W)
          obtain ⟨va, hva⟩ : ∃ v, v = valD a := ⟨_, rfl⟩
          obtain ⟨vb, hvb⟩ : ∃ v, v = valD b := ⟨_, rfl⟩
          rw [← hva] at h3 ha16 HVA
          rw [← hvb] at h3 hb16 HVB
          clear hva hvb
          by_cases q1 : va < 0
          · have HZ := Lib.hid (HBAD.out (by rw [hun, h3, if_pos (.inl q1)]; rfl))
            clear hun h3 HUN
            go_wp2_with fail
            refine (HVA.out _).mono ?_
            rintro e w1 ⟨rfl, rfl⟩
            go_wp2
            go_ret2
            exact Read4.of HZ.out HB.out
          · by_cases q2 : vb < 0
            · have HZ := Lib.hid (HBAD.out (by rw [hun, h3, if_pos (.inr q2)]; rfl))
              clear hun h3 HUN
              go_wp2_with fail
              refine (HVA.out _).mono ?_
              rintro e w1 ⟨rfl, rfl⟩
              go_wp2_with fail
              refine (HVB.out _).mono ?_
              rintro e w1 ⟨rfl, rfl⟩
              go_wp2
              go_ret2
              exact Read4.of HZ.out HB.out
            · have hun2 := hun
              rw [h3, if_neg (by omega), Option.map_map] at hun2
              clear hun h3 HUN
              obtain ⟨p, hp⟩ : ∃ p : Nat, va = (p : Int) := ⟨va.toNat, by omega⟩
              obtain ⟨q, hq⟩ : ∃ q : Nat, vb = (q : Int) := ⟨vb.toNat, by omega⟩
              subst hp hq
              go_wp2_with fail
              refine (HVA.out _).mono ?_
              rintro e w1 ⟨rfl, rfl⟩
              go_wp2_with fail
              refine (HVB.out _).mono ?_
              rintro e w1 ⟨rfl, rfl⟩
              go_upto_region 11 with fail
              have hw1 : IntKind.i64.wrap ((k : Int) + 1) = (k : Int) + 1 := IntWalk.i64_in _ (by omega)
              have hw2 : IntKind.i64.wrap ((k : Int) + 2) = (k : Int) + 2 := IntWalk.i64_in _ (by omega)
              have hp1 : (0 : Int) ≤ (k : Int) + 1 := by omega
              have hp2 : (0 : Int) ≤ (k : Int) + 2 := by omega
              have hn1 : ((k : Int) + 1).toNat = k + 1 := by omega
              have hn2 : ((k : Int) + 2).toNat = k + 2 := by omega
              have hs1 : IntKind.i64.wrap ((p : Int) * 16) = (p : Int) * 16 := IntWalk.i64_in _ (by omega)
              obtain ⟨x, hx⟩ : ∃ x, x = UInt8.ofNat (p * 16 + q) := ⟨_, rfl⟩
              have ho1 := or_fin64 p q (by omega) (by omega)
              have hxn : x.toNat = p * 16 + q := by rw [hx, UInt8.toNat_ofNat', Nat.mod_eq_of_lt (by omega)]
              obtain ⟨r, hr⟩ : ∃ r, r = p * 16 + q := ⟨_, rfl⟩
              rw [← hr] at ho1 hxn
              have hx2 : IntKind.u8.wrap (r : Int) = (x.toNat : Int) := by rw [hxn, IntKind.wrap_u8]; omega
              have HN := Lib.hid (show unhex t = (unhex (t.drop (k + 3))).map ((o ++ [x]) ++ ·) by
                rw [hun2, Int.toNat_natCast, Int.toNat_natCast, ← hx]
                simp only [Function.comp_def, List.append_assoc, List.singleton_append])
              have HA := Lib.hid (RowB.append (P := Tryd.prog) 42 42 i0 Tryd.underlying42 HI.out.1 HI.out.2.1 HI.out.2.2.1 HI.out.2.2.2 (w := wr.drew) (B := w.heap.size) (v := u4) (l := o) HRW.out HB.out.size x (by omega))
              clear hun2 hr hx hxn q1 q2 hc2
              go_region_held3 (fun W => Stb w W) (first | exact Stb.of HB.out.drew | assumption | (exact Stb.alloc (by assumption) _) | (exact Stb.of (hb' w HB.out.drew))) (first
                | (go_at_call_of 29 (a); refine (HVA.out _).mono ?_; rintro e w1 ⟨rfl, rfl⟩)
                | (go_at_call_of 29 (b); refine (HVB.out _).mono ?_; rintro e w1 ⟨rfl, rfl⟩)
                | (refine step_append_by (by rfl) (.tmp 46) (.tmp 60) #[42, 42] (by rfl) _ _ (by rfl) (by rfl) HA.out ?_; rintro v' w' ⟨hR', hb'⟩))
              all_goals
                have HR2 := Lib.hid hR'
                have HB2 := Lib.hid (hb' w HB.out.drew)
                clear hR' hb' HA hw1 hw2 hn1 hn2
                go_wp2
                go_roundw
                case rel => exact ⟨k + 3, o ++ [x], by omega, by simp; omega, by go_num, HN.out, HR2.out, HB2.out⟩
                case measure => simp [intOf]; omega
        · have HZ := Lib.hid (HBAD.out (by rw [hun, unhex_cut hlt hc h2]; rfl))
          have hk4 : (t.length : Int) ≤ (k : Int) + 2 := by omega
          clear hun HUN hR hb hc
          go_wp2
          go_ret2
          exact Read4.of HZ.out HB.out
      · have hc2 : ((t[k].toNat : Int) != 37) = true := by
          simp only [bne_iff_ne, ne_eq]
          intro e
          exact hc (UInt8.toNat_inj.1 (by have : t[k].toNat = 37 := by omega
                                          exact this))
        have HN := Lib.hid (show unhex t = (unhex (t.drop (k + 1))).map ((o ++ [t[k]]) ++ ·) by
          rw [hun, ← List.getElem_cons_drop hlt, unhex_skip hc, Option.map_map]
          simp only [Function.comp_def, List.append_assoc, List.singleton_append])
        have HA := Lib.hid (RowB.append (P := Tryd.prog) 42 42 i0 Tryd.underlying42 HI.out.1 HI.out.2.1 HI.out.2.2.1 HI.out.2.2.2 hR hb.size t[k] (by omega))
        clear hun hR hb hc HRW
        go_wp2_with (first | (refine wpList_append_by (by rfl) (.tmp 19) (.tmp 23) #[42, 42] (by rfl) _ _ (by rfl) (by rfl) HA.out ?_; rintro v' w' ⟨hR', hb'⟩; have HR2 := Lib.hid hR'; have HB2 := Lib.hid (hb' w HB.out); clear hR' hb' HA) | fail)
        go_roundw
        case rel => exact ⟨k + 1, o ++ [t[k]], by omega, by simp; omega, by go_num, HN.out, HR2.out, HB2.out⟩
        case measure => simp [intOf]; omega
    · obtain rfl : k = t.length := by omega
      have hk1 : ¬ (t.length : Int) < (t.length : Int) := by omega
      rw [List.drop_length] at hun
      have hun2 : unhex t = some o := by rw [hun]; simp [unhex]
      have HS := Lib.hid (HSOME.out o hun2)
      have hstr := RowB.string (P := Tryd.prog) hR 42 9 Tryd.underlying42 Tryd.underlying5 Tryd.underlying9
      obtain ⟨A, c, rfl⟩ := hR.len
      have HSH := Lib.hid (fun W => show4_any o W (by omega))
      by_cases ho : o = []
      · have ho2 : (o == []) = true := by simpa using ho
        have HZ := Lib.hid (show F = ([], 40) by rw [HS.out, if_pos (.inl ho)])
        clear ho hun hun2 HUN HS hR hb HRW
        go_wp2
        go_ret2
        exact Read4.of HZ.out HB.out
      · have ho2 : (o == []) = false := by simpa using ho
        clear hun hun2 HUN hR hb HRW
        go_wp2_with fail
        refine (HSH.out _).mono ?_
        rintro e w1 ⟨rfl, hb1⟩
        by_cases hs : showN o = t
        · have HZ := Lib.hid (show F = (o, 0) by rw [HS.out, if_neg (by simp [ho, hs])])
          have hs2 : (showN o == t) = true := by simpa using hs
          clear HS hs
          go_wp2
          go_ret2
          exact Read4.of HZ.out (below_then HB.out hb1)
        · have HZ := Lib.hid (show F = ([], 40) by rw [HS.out, if_pos (.inr hs)])
          have hs2 : (showN o == t) = false := beq_false_of_ne hs
          clear HS hs
          go_wp2
          go_ret2
          exact Read4.of HZ.out (below_then HB.out hb1)
end Go.Proofs.YtjjlkdmpnpejjaaDoor
