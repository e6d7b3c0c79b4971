/-
  Layer 17, walks: changes' record. Condition: the changes' numbers are machine numbers.
-/
import Derived.Test.YthfhdighniiodaaDoorR15
namespace Go.Proofs.YthfhdighniiodaaDoor
open Go.RowKit
attribute [local go_sem ↓] Go.wp_at_zero Go.wp_at_succ
attribute [local go_sem] rowAt_ptr rowOf_drew rowOf_drewN rowOf_alloc_past rowOf_new
attribute [local go_sem ↓] ldAttrR ldChange

attribute [local go_sem] Change.at0 Change.lat0 Change.at1 Change.lat1 Change.at2 Change.lat2 Change.at3 Change.lat3 Change.at4 Change.lat4 Change.at5 Change.lat5 Change.at6 Change.lat6 Change.at7 Change.lat7 Change.at8 Change.lat8 Change.at9 Change.lat9 Change.at10 Change.lat10 Change.at11 Change.lat11 Change.at12 Change.lat12 Change.at13 Change.lat13 Change.at14 Change.lat14 Change.at15 Change.lat15 Change.at16 Change.lat16 Change.at17 Change.lat17 Change.sub0_18 Change.lsub0_18 Change.sub6_10 Change.lsub6_10 Change.len Attr.at0 Attr.lat0 Attr.at1 Attr.lat1 Attr.at2 Attr.lat2 Attr.at3 Attr.lat3 Attr.at4 Attr.lat4 Attr.at5 Attr.lat5 Attr.at6 Attr.lat6 Attr.at7 Attr.lat7 Attr.at8 Attr.lat8 Attr.at9 Attr.lat9 Attr.sub0_10 Attr.lsub0_10 Attr.len

/-- the bytes of the first k letters' fields -/
def rLaid (x : Change) (l : List UInt8) (k : Nat) : List UInt8 := (l.take k).flatMap fun c => rBytes x c.toNat
theorem rLaid_succ (x : Change) (l : List UInt8) (k : Nat) (hk : k < l.length) : rLaid x l (k + 1) = rLaid x l k ++ rBytes x l[k].toNat := by
  unfold rLaid
  rw [List.take_add_one, List.getElem?_eq_getElem hk, List.flatMap_append]
  simp
/-- a change's bytes -/
def recOne (x : Change) : List UInt8 := num x.kind.toNat 4 ++ rLaid x (rHas x.kind) (rHas x.kind).length
def recMany (l : List Change) : List UInt8 := l.flatMap recOne
theorem recMany_succ (l : List Change) (k : Nat) (hk : k < l.length) : recMany (l.take (k + 1)) = recMany (l.take k) ++ recOne l[k] := by
  unfold recMany; rw [take_next _ _ hk, List.flatMap_append]; simp
/-- changes' record, or why there is none -/
def rPut (l : List Change) : List UInt8 × Int :=
  if 16 < l.length then ([], 4) else if l.all rOk then (num l.length 4 ++ recMany l, 0) else ([], 14)
theorem rBytes_len (x : Change) (c : Nat) (hm : rMay x c = true) (hl : rLetter c) : (rBytes x c).length ≤ 300 := by
  have h1 := padn_lt x.up.length
  have h2 := padn_lt x.name.length
  have h3 := padn_lt x.child.length
  have h4 := x.attr.bytes_len
  rcases hl with rfl | rfl | rfl | rfl | rfl | rfl | rfl | rfl
  all_goals
    simp [rMay] at hm
    simp [rBytes, num_len, opq, filled_len]
    try omega
theorem rLaid_len (x : Change) (l : List UInt8) (hm : rMayAll x l = true) (hl : ∀ c ∈ l, rLetter c.toNat ∧ c.toNat < 128) (k : Nat) (hk : k ≤ l.length) : (rLaid x l k).length ≤ 300 * k := by
  induction k with
  | zero => simp [rLaid]
  | succ k ih =>
    have h1 := ih (by omega)
    have hlt : k < l.length := by omega
    have h2 := rBytes_len x l[k].toNat (rAll_at hm k hlt) (hl _ (List.getElem_mem hlt)).1
    rw [rLaid_succ x l k hlt, List.length_append]
    omega
theorem rOk_parts {x : Change} (h : rOk x = true) : rHas x.kind ≠ [] ∧ rMayAll x (rHas x.kind) = true ∧ rTaken x (rHas x.kind) { change0 with kind := x.kind } (rHas x.kind).length = x := by
  simp only [rOk, Bool.and_eq_true, Bool.not_eq_true', decide_eq_true_eq] at h
  refine ⟨fun e => ?_, h.2⟩
  rw [e] at h; simp at h
theorem rHas_kind {p : Int} (h : rHas p ≠ []) : 0 ≤ p ∧ p ≤ 9 := by
  rcases Int.lt_or_le p 0 with h1 | h1
  · exact absurd (rHas_low h1) h
  · rcases Int.lt_or_le p 10 with h2 | h2
    · omega
    · exact absurd (rHas_high h2) h
theorem recOne_len {x : Change} (h : rOk x = true) : (recOne x).length ≤ 904 := by
  have hp := rOk_parts h
  have h1 := rLaid_len x _ hp.2.1 (rHas_letter x.kind) _ (Nat.le_refl _)
  have h2 := rHas_short x.kind
  simp only [recOne, List.length_append, num_len]
  omega
theorem recMany_len {l : List Change} (h : ∀ x ∈ l, rOk x = true) : (recMany l).length ≤ 904 * l.length := by
  induction l with
  | nil => simp [recMany]
  | cons x l ih =>
    have h1 := ih fun y hy => h y (by simp [hy])
    have h2 := recOne_len (h x (by simp))
    unfold recMany at *
    simp only [List.flatMap_cons, List.length_append, List.length_cons]
    omega
theorem rPut_bad {l : List Change} {k : Nat} (hl : ¬ 16 < l.length) (hk : k < l.length) (h : rOk l[k] = false) : rPut l = ([], 14) := by
  have : l.all rOk = false := by
    rw [Bool.eq_false_iff]; intro h2
    rw [List.all_eq_true] at h2
    have := h2 _ (List.getElem_mem hk)
    rw [h] at this; cases this
  simp [rPut, hl, this]

theorem row_ne_it {w : World} {base : Nat} {e : TypeId} {size n b pos : Nat} {v : Value} {xs : List Value} {l : List UInt8} (h : w.ownsRow base e size v n xs) (hI : Itr w b l pos) : v.ownBlock ≠ some b := by
  intro hb
  rcases h.2 with ⟨rfl, _⟩ | ⟨g, cap, cur, rfl, _, hg, _⟩
  · simp [Value.ownBlock] at hb
  · simp [Value.ownBlock] at hb
    subst hb
    unfold Itr at hI
    rw [hg] at hI
    cases hI
theorem Wr.foot_ne_it {w : World} {g b pos : Nat} {sv : Value} {m l : List UInt8} (h : Wr w g sv m) (hI : Itr w b l pos) : ¬ foot g sv b := by
  intro hf
  rcases hf with rfl | hf
  · exact h.1.ne_it hI rfl
  · exact row_ne_it h.2 hI hf
theorem Wr.setIter {w : World} {g b pos : Nat} {sv : Value} {m l : List UInt8} (h : Wr w g sv m) (hI : Itr w b l pos) (p : Nat) : Wr (w.setIter b l p) g sv m :=
  h.touch ((Touch.refl (fun k => k = b) w).setIter (.inl rfl) _ _) fun _ hf e => h.foot_ne_it hI (e ▸ hf)

set_option maxRecDepth 20000 in
set_option maxHeartbeats 3200000 in
theorem put17_any (A : Option Addr) (c : Nat) (l : List Change) (w : World) (_hl : l.length ≤ 9223372036854775807) (hg : ∀ x ∈ l, x.good) (hA : At w 18 A (l.map Change.vals)) :
    Calls Tryd.prog 20 #[.slice A l.length c] w fun e w' => e = .returned (.tuple #[.string (bs (rPut l).1), .int .i64 (rPut l).2]) ∧ Below w.heap.size w w' := by
  by_cases h16 : 16 < l.length
  · have HS := Lib.hid (show rPut l = ([], 4) by simp [rPut, h16])
    go_enter Tryd.func20, Tryd.ntmps20
    go_wp2
    go_ret2
    rw [HS.out]
    exact ⟨rfl, Below.refl _ _⟩
  · have hn16 : ¬ (16 : Int) < (l.length : Int) := by omega
    have hW0 := Wr.fresh w
    have hB0 : Below w.heap.size w (w.alloc (.cells #[.slice none 0 0] 87)) := (Below.refl _ _).alloc (Nat.le_refl _) _
    go_enter Tryd.func20, Tryd.ntmps20
    go_wp2_with fail
    generalize w.alloc (.cells #[.slice none 0 0] 87) = w0 at *
    refine (wU32_any w.heap.size _ [] l.length _ hW0 (by omega) (by decide)).mono ?_
    rintro e w1 ⟨rfl, sv1, hW1, hr1, hT1⟩
    have HB1 := Lib.hid (hB0.trans (Moved.below (B := w.heap.size) ⟨sv1, hW1, hr1, hT1⟩ (Nat.le_refl _) (by simp [Value.ownBlock]) hB0.size))
    have HR1 := Lib.hid (show ∀ j, sv1.ownBlock = some j → w.heap.size ≤ j from fun j hj => by
      rcases hr1 j hj with h | h
      · simp [Value.ownBlock] at h
      · exact Nat.le_trans hB0.size h)
    have HW1 := Lib.hid hW1
    rw [List.nil_append] at HW1
    clear hW1 hr1 hT1 hW0 hB0
    go_wp2
    go_loopw [21] (fun i wr => ∃ (k : Nat) (sv : Value), k ≤ l.length ∧ i = .int .i64 k ∧ (∀ (j : Nat) (hj : j < l.length), j < k → rOk l[j] = true) ∧ Wr wr w.heap.size sv (num l.length 4 ++ recMany (l.take k)) ∧ (∀ j, sv.ownBlock = some j → w.heap.size ≤ j) ∧ Below w.heap.size w wr) (fun i _ => l.length - (intOf i).toNat)
    case atStart => exact ⟨0, sv1, Nat.zero_le _, rfl, fun _ _ h => absurd h (Nat.not_lt_zero _), by simpa [recMany] using HW1.out, HR1.out, HB1.out⟩
    case round =>
      obtain ⟨k, sv, hk, rfl, hok, hW, hsv, hB⟩ := hrel
      by_cases hlt : k < l.length
      · obtain ⟨b, off, rfl, hb, hc⟩ := rowCell (hA.below hB) hlt
        have hgk := hg _ (List.getElem_mem hlt)
        have HM := Lib.hid (recMany_succ l k hlt)
        have HK := Lib.hid (fun h : rOk l[k] = false => rPut_bad h16 hlt h)
        have hlm : (recMany (l.take k)).length ≤ 904 * 16 := Nat.le_trans (recMany_len fun x hx => by
          obtain ⟨j, hj, rfl⟩ := List.getElem_of_mem hx
          simp only [List.length_take] at hj
          rw [List.getElem_take]; exact hok j (by omega) (by omega)) (Nat.mul_le_mul (Nat.le_refl _) (by rw [List.length_take]; omega))
        have HOK := Lib.hid hok
        generalize hxe : l[k] = x at *
        have HXE := Lib.hid hxe
        clear hxe
        have hbx := Blk.new wr 44 x.vals
        have hBx := hB.alloc hB.size (.cells x.vals.toArray 44)
        have hWx := hW.alloc (.cells x.vals.toArray 44)
        have rx : rowOf (wr.alloc (.cells x.vals.toArray 44)) wr.heap.size 0 18 = some x.vals.toArray := hbx.row 0 18 (by simp [Change.len])
        clear hB hW hok
        go_wp2_with (first
          | (refine wpList_load_mid (by rfl) 44 _ (by rfl) _ _ (by rfl) _ _ (by exact hc) Tryd.underlying44 (by rfl) (by kernel_rfl) ?_)
          | (refine wpList_new_struct (by rfl) (by rfl) 44 (by rfl) _ _ (by rfl) x.vals infoChangeS (by rfl) (by rfl) (Change.one _) (by rfl) (by rfl) ?_)
          | fail)
        refine (check17_any x _ hgk.2.2.2.2.2.2.1).mono ?_
        rintro e w2 ⟨rfl, hb2⟩
        have hX2 := hbx.stays hb2
        have hB2 := below_then hBx hb2
        have hW2 := hWx.stays hb2
        have hcx := hX2.cell
        clear hbx hBx hWx rx hb2 hc
        unfold rCheck
        cases hox : rOk x with
        | false =>
          have HV := Lib.hid (HK.out hox)
          clear hox
          go_wp2
          go_ret2
          rw [HV.out]
          exact ⟨rfl, hB2⟩
        | true =>
          obtain ⟨hp1, hp2, hp3⟩ := rOk_parts hox
          have hkb := rHas_kind hp1
          obtain ⟨n, hn⟩ := Int.eq_ofNat_of_zero_le hkb.1
          have HN := Lib.hid hn
          have hone : recOne x = num n 4 ++ rLaid x (rHas x.kind) (rHas x.kind).length := by rw [recOne, hn]; rfl
          have HO := Lib.hid hone
          have HX := Lib.hid hox
          have hhas := fun W => recHas_any x.kind W
          have hlet := rHas_letter x.kind
          have hsh := rHas_short x.kind
          have hll := rLaid_len x _ hp2 hlet
          have hn9 : n ≤ 9 := by omega
          have hmx := (Go.bounds_i64 hgk.2.2.1).2
          have hga := hgk.2.2.2.2.2.2.1
          clear hn hone hox hp1 hp3 hkb HK
          generalize rHas x.kind = ls at *
          go_wp2_with fail
          rw [HN.out]
          refine (wU32_any w.heap.size sv _ n _ hW2 (by omega) (by rw [List.length_append, num_len]; omega)).mono ?_
          rintro e w3 ⟨rfl, sv3, hW3, hr3, hT3⟩
          have hX3 := hW2.keeps hX2 (by decide) (by decide) hT3
          have hB3 := hB2.trans (Moved.below (B := w.heap.size) ⟨sv3, hW3, hr3, hT3⟩ (Nat.le_refl _) hsv hB2.size)
          have hsv3 : ∀ j, sv3.ownBlock = some j → w.heap.size ≤ j := fun j hj => by
            rcases hr3 j hj with h | h
            · exact hsv j h
            · exact Nat.le_trans hB2.size h
          have hcx := hX3.cell
          clear hX2 hW2 hr3 hT3 hsv hB2
          go_wp2_with fail
          refine (hhas _).mono ?_
          rintro e w4 ⟨rfl, rfl⟩
          have hI := Itr.new w3 ls
          have hb4 : Below w3.heap.size w3 (w3.iter (bs ls) 0) := (Below.refl _ _).alloc (Nat.le_refl _) (.stringIter (bs ls) 0)
          have hX4 := hX3.stays hb4
          have hW4 := hW3.stays hb4
          have hB4 := below_then hB3 hb4
          have hge := hB3.size
          clear hX3 hW3 hB3 hb4 hhas hcx
          go_wp2
          generalize w3.iter (bs ls) 0 = w4 at *
          generalize w3.heap.size = ib at *
          go_loopw [9] (fun _ wi => ∃ (j : Nat) (sv4 : Value), j ≤ ls.length ∧ Wr wi w.heap.size sv4 (num l.length 4 ++ recMany (l.take k) ++ num n 4 ++ rLaid x ls j) ∧ (∀ i, sv4.ownBlock = some i → w.heap.size ≤ i) ∧ Blk wi wr.heap.size 44 x.vals ∧ Below w.heap.size w wi ∧ Itr wi ib ls j) (fun _ wi => ls.length - itPos wi ib)
          case atStart => exact ⟨0, sv3, Nat.zero_le _, by simpa [rLaid] using hW4, hsv3, hX4, hB4, hI⟩
          case round =>
            clear hW4 hX4 hB4 hI hsv3
            obtain ⟨j, sv4, hj, hW, hsv, hX, hB, hI⟩ := hrel
            by_cases hlj : j < ls.length
            · have hn := fun ty => run_next_itr (P := Tryd.prog) hI hlj (hlet _ (List.getElem_mem hlj)).2 ty
              have hI2 := hI.set_ (j + 1)
              have hW2 := hW.setIter hI (j + 1)
              have hX2 := hX.farIter (hX.ne_it hI) ls (j + 1)
              have hB2 := Below.setIter hB (b := ib) hge ls (j + 1)
              have hp := hI.posn
              have hl := (hlet _ (List.getElem_mem hlj)).1
              have hlb := hll j hj
              have HT := Lib.hid (rLaid_succ x ls j hlj)
              clear hI hW hX hB
              go_wp2_with fail
              refine (rlay_any _ _ sv4 _ x _ _ hl hW2 hX2 (rAll_at hp2 j hlj) hmx hga (by simp only [List.length_append, num_len]; omega)).mono ?_
              rintro e w5 ⟨rfl, sv5, hW5, hr5, hT5⟩
              have hX5 := hW2.keeps hX2 (by decide) (by decide) hT5
              have hI5 := hI2.touch hT5 (hW2.foot_ne_it hI2)
              have hB5 := hB2.trans (Moved.below (B := w.heap.size) ⟨sv5, hW5, hr5, hT5⟩ (Nat.le_refl _) hsv hB2.size)
              have hsv5 : ∀ i, sv5.ownBlock = some i → w.heap.size ≤ i := fun i hi => by
                rcases hr5 i hi with h | h
                · exact hsv i h
                · exact Nat.le_trans hB2.size h
              have hp5 := hI5.posn
              rw [List.append_assoc _ (rLaid _ _ _), ← HT.out] at hW5
              clear hn hI2 hW2 hX2 hB2 hT5 hr5 hsv
              go_wp2
              go_roundw
              case rel => exact ⟨j + 1, sv5, by omega, hW5, hsv5, hX5, hB5, hI5⟩
              case measure => rw [hp, hp5]; omega
            · have hn := fun ty => run_next_itr_end (P := Tryd.prog) hI hlj ty
              obtain rfl : j = ls.length := by omega
              rw [List.append_assoc, ← HO.out, List.append_assoc, ← HM.out] at hW
              have HP := Lib.hid (show ∀ (j : Nat) (hj : j < l.length), j < k + 1 → rOk l[j] = true from fun j hj h => by
                rcases Nat.lt_or_ge j k with h2 | h2
                · exact HOK.out j hj h2
                · obtain rfl : j = k := by omega
                  exact (congrArg rOk HXE.out).trans HX.out)
              clear hX hI HOK
              go_wp2
              go_roundw
              case rel => exact ⟨k + 1, sv4, by omega, by go_num, HP.out, hW, hsv, hB⟩
              case measure => simp [intOf]; omega
      · obtain rfl : k = l.length := by omega
        have hta : l.take l.length = l := List.take_length
        rw [hta] at hW
        have HV := Lib.hid (show rPut l = (num l.length 4 ++ recMany l, 0) by
          have : l.all rOk = true := by
            rw [List.all_eq_true]; intro x hx
            obtain ⟨j, hj, rfl⟩ := List.getElem_of_mem hx
            exact hok j hj hj
          simp [rPut, h16, this])
        generalize num l.length 4 ++ recMany l = m at *
        clear hta hok hsv
        go_wp2_with fail
        refine (wText_any _ sv _ _ hW).mono ?_
        rintro e w6 ⟨rfl, rfl⟩
        go_wp2
        go_ret2
        rw [HV.out]
        exact ⟨rfl, hB⟩
end Go.Proofs.YthfhdighniiodaaDoor
