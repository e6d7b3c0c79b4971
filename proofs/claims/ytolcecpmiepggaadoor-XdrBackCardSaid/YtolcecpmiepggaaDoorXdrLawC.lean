/-
  Layer 1, walks: the law XdrBack. No condition but machine numbers.
-/
import Derived.Test.YtolcecpmiepggaaDoorXdrLawB
import Derived.Test.YtolcecpmiepggaaDoorXdrBackPure
namespace Go.Proofs.YtolcecpmiepggaaDoor
open Go.RowKit
attribute [local go_sem ↓] Go.wp_at_zero Go.wp_at_succ
attribute [local go_sem] rowAt_ptr rowOf_drew rowOf_drewN rowOf_alloc_past rowOf_new
attribute [local go_sem ↓] ldThing neqThing_same

attribute [local go_sem] guardThing Thing.tlat0 Thing.tlat1 Thing.tlat2 Thing.tlat3

theorem bytesOf_drop {ts : List Thing} {k : Nat} (hk : k < ts.length) : bytesOf (ts.drop k) = ts[k].bytes ++ bytesOf (ts.drop (k + 1)) := by
  rw [List.drop_eq_getElem_cons hk]; rfl
theorem take_back (g : Nat) (t nt : Thing) (rest : List UInt8) (w : World) (hR : Rd w g ⟨t.bytes ++ rest, 0⟩) (he : t.err = 0) (hk : ¬ otherKind t.kind) (hs : t.s.length ≤ 200) (hn : t.n ≤ 9223372036854775807) (hl : (t.bytes ++ rest).length ≤ 9223372036854775807) (hnt : t.norm = nt) :
    Calls Tryd.prog 28 #[.pointer (some ⟨g, 0, none⟩), .int .i64 nt.kind, .int .i64 t.s.length] w (Gave g ⟨rest, 0⟩ (.agg nt.vals.toArray) w) := by
  have h := take_any g nt.kind t.s.length ⟨t.bytes ++ rest, 0⟩ w hR (by omega) hl
  rw [← hnt, tTake_back t rest he hk hs hn] at h
  rw [← hnt]
  exact h
theorem norm_other {t : Thing} (h : otherKind t.kind) : t.norm = t := by
  obtain ⟨h1, h2, h3, h4, h5, h6⟩ := h
  simp [Thing.norm, h1, h2, h3, h4, h5, h6]

set_option maxRecDepth 20000 in
set_option maxHeartbeats 6400000 in
theorem xdrBack_any (A : Option Addr) (c : Nat) (ts : List Thing) (w : World) (hl : ts.length ≤ 9223372036854775807) (hd : ∀ t ∈ ts, t.good) (hA : At w 4 A (ts.map Thing.vals)) :
    Calls Tryd.prog 7 #[.slice A ts.length c] w fun e w' => e = .returned (.bool true) ∧ Below w.heap.size w w' := by
  go_enter Tryd.func7, Tryd.ntmps7
  go_wp2_with fail
  refine (xlarge_any A c ts w hl (fun t ht => (hd t ht).2.2) hA).mono ?_
  rintro e w1 ⟨he, rfl⟩
  cases ho : over long 40 ts
  case true =>
    rw [ho] at he
    subst he
    go_wp2_with fail
    refine (xknown_any _).mono ?_
    rintro e w2 ⟨rfl, hb⟩
    go_wp2
    go_ret
    exact ⟨rfl, hb⟩
  case false =>
    rw [ho] at he
    subst he
    obtain ⟨hl4, hs⟩ := over_no ho
    have hs2 : ∀ t ∈ ts, t.s.length ≤ 200 := fun t ht => by have := hs t ht; simpa [long] using this
    have hW0 := Wr.fresh w
    have hB0 : Below w.heap.size w (w.alloc (.cells #[.slice none 0 0] 41)) := (Below.refl _ _).alloc (Nat.le_refl _) _
    clear ho hs
    go_wp2
    generalize w.alloc (.cells #[.slice none 0 0] 41) = w0 at *
    go_loopw [4] (fun i wr => ∃ (k : Nat) (sv : Value), k ≤ ts.length ∧ i = .int .i64 k ∧ (∀ (j : Nat) (hj : j < ts.length), j < k → ts[j].err = 0) ∧ Wr wr w.heap.size sv (bytesOf (ts.take k)) ∧ (∀ j, sv.ownBlock = some j → w.heap.size ≤ j) ∧ Below w.heap.size w wr) (fun i _ => ts.length - (intOf i).toNat)
    case atStart => exact ⟨0, _, Nat.zero_le _, rfl, fun _ _ h => absurd h (Nat.not_lt_zero _), hW0, by simp [Value.ownBlock], hB0⟩
    case round =>
      obtain ⟨k, sv, hk, rfl, hok, hW, hsv, hB⟩ := hrel
      by_cases hlt : k < ts.length
      · obtain ⟨b, off, rfl, hb, hc⟩ := thingCell (hA.below hB) hlt
        have hg := hd _ (List.getElem_mem hlt)
        have h2 := hs2 _ (List.getElem_mem hlt)
        have hlen : (bytesOf (ts.take k)).length ≤ 216 * 40 := Nat.le_trans (bytesOf_len _ fun t ht => hs2 t (List.mem_of_mem_take ht)) (Nat.mul_le_mul (Nat.le_refl _) (by simp; omega))
        have HS := Lib.hid (bytesOf_succ hlt)
        go_wp2_with (first
          | (refine wpList_load_mid (by rfl) 43 _ (by rfl) _ _ (by rfl) _ _ (by exact hc) Tryd.underlying43 (by rfl) (by kernel_rfl) ?_)
          | fail)
        refine (put_any _ sv _ ts[k] _ hW hg (by omega) (by omega)).mono ?_
        rintro e w3 ⟨rfl, sv3, hW3, hr3, hT3⟩
        have HB3 := Lib.hid (hB.trans (Moved.below (B := w.heap.size) ⟨sv3, hW3, hr3, hT3⟩ (Nat.le_refl _) hsv hB.size))
        have HR3 := Lib.hid (show ∀ j, sv3.ownBlock = some j → w.heap.size ≤ j from fun j hj => by
          rcases hr3 j hj with h | h
          · exact hsv j h
          · exact Nat.le_trans hB.size h)
        rw [← HS.out] at hW3
        by_cases herr : ts[k].err = 0
        · have HP := Lib.hid (show ∀ (j : Nat) (hj : j < ts.length), j < k + 1 → ts[j].err = 0 from fun j hj h => by
            rcases Nat.lt_or_ge j k with h3 | h3
            · exact hok j hj h3
            · obtain rfl : j = k := by omega
              exact herr)
          rw [herr]
          clear hr3 hT3 hW hsv hc hB hok herr
          go_wp2
          go_roundw
          case rel => exact ⟨k + 1, sv3, by omega, by go_num, HP.out, hW3, HR3.out, HB3.out⟩
          case measure => simp [intOf]; omega
        · have herr2 : (ts[k].err != 0) = true := by simpa using herr
          clear hr3 hT3 hW hsv hc hB hok herr
          go_wp2_with fail
          refine (xknown_any _).mono ?_
          rintro e w4 ⟨rfl, hb4⟩
          go_wp2
          go_ret
          exact ⟨rfl, below_then HB3.out hb4⟩
      · obtain rfl : k = ts.length := by omega
        rw [List.take_length] at hW
        have hblen : (bytesOf ts).length ≤ 216 * 40 := Nat.le_trans (bytesOf_len _ hs2) (Nat.mul_le_mul (Nat.le_refl _) (by omega))
        have HOK := Lib.hid (fun (j : Nat) (hj : j < ts.length) => hok j hj hj)
        clear hok hk hlt
        go_wp2_with fail
        refine (wText_any _ sv _ _ hW).mono ?_
        rintro e w4 ⟨rfl, rfl⟩
        go_wp2_with fail
        refine (readNew_any (bytesOf ts) _).mono ?_
        rintro e w5 ⟨rfl, hR5, hb5⟩
        have HB5 := Lib.hid (below_then hB hb5)
        have hge := hB.size
        clear hW hsv hB hb5
        go_wp2
        generalize wr.heap.size = g at *
        go_loopw [6] (fun i wr => ∃ k : Nat, k ≤ ts.length ∧ i = .int .i64 k ∧ Rd wr g ⟨bytesOf (ts.drop k), 0⟩ ∧ Below w.heap.size w wr) (fun i _ => ts.length - (intOf i).toNat)
        case atStart => exact ⟨0, Nat.zero_le _, rfl, hR5, HB5.out⟩
        case round =>
          clear hR5
          obtain ⟨k, hk, rfl, hR, hB⟩ := hrel
          by_cases hlt : k < ts.length
          · obtain ⟨b, off, rfl, hb, hc⟩ := thingCell (hA.below hB) hlt
            have hg := hd _ (List.getElem_mem hlt)
            have h2 := hs2 _ (List.getElem_mem hlt)
            have HD := Lib.hid (bytesOf_drop hlt)
            have herr := HOK.out k hlt
            have hdl : (bytesOf (ts.drop k)).length ≤ 9223372036854775807 := by
              have h3 := bytesOf_len (ts.drop k) fun t ht => hs2 t (List.mem_of_mem_drop ht)
              have h4 : (ts.drop k).length ≤ 40 := by rw [List.length_drop]; omega
              omega
            generalize ts[k] = t at *
            have hbx := Blk.new wr 43 t.vals
            have hBx := hB.alloc hB.size (.cells t.vals.toArray 43)
            have hRx := hR.stays ((Below.refl _ _).alloc (Nat.le_refl _) (.cells t.vals.toArray 43))
            have hltg := hR.lt
            by_cases hko : otherKind t.kind
            · have HN := Lib.hid (show bytesOf (ts.drop k) = bytesOf (ts.drop (k + 1)) by rw [HD.out, Thing.bytes_other hko]; rfl)
              obtain ⟨h1, h3, h4, h5, h6, h7⟩ := hko
              clear hR hB hbx
              go_wp2_with (first
                | (refine wpList_load_mid (by rfl) 43 _ (by rfl) _ _ (by rfl) _ _ (by exact hc) Tryd.underlying43 (by rfl) (by kernel_rfl) ?_)
                | (refine wpList_new_struct (by rfl) (by rfl) 43 (by rfl) _ _ (by rfl) t.vals infoThing (by rfl) (by rfl) (Thing.one _) (by rfl) (by rfl) ?_)
                | fail)
              go_roundw
              case rel => exact ⟨k + 1, by omega, by go_num, by rw [← HN.out]; exact hRx, hBx⟩
              case measure => simp [intOf]; omega
            · -- KINDS
              have hgn := (Go.bounds_i64 hg.2.1).2
              clear hbx hBx hRx
              obtain ⟨kk, n, is, s⟩ := t
              simp only at hgn h2 hko
              have hsz := bs_size s
              rcases kind_cases kk with rfl | rfl | rfl | rfl | rfl | rfl | hk7
              · have hnt : (Thing.mk 1 n is s).norm = ⟨1, n, false, []⟩ := rfl
                have HT := Lib.hid (fun W (h : Rd W g ⟨bytesOf (ts.drop k), 0⟩) => take_back g (Thing.mk 1 n is s) ⟨1, n, false, []⟩ (bytesOf (ts.drop (k + 1))) W (by rw [← HD.out]; exact h) herr (by simp [otherKind]) h2 hgn (by rw [← HD.out]; exact hdl) hnt)
                have hbx : Blk (wr.alloc (.cells #[.int .i64 1, .int .i64 n, .bool false, .string (bs [])] 43)) wr.heap.size 43 (Thing.mk 1 n false []).vals := Blk.new _ _ _
                have r1 := hbx.row 0 4 (by rw [Thing.tlen]; omega)
                have c1 := hbx.cell 0
                rw [Thing.tlat0] at c1
                have hBx := hB.alloc hB.size (.cells #[.int .i64 1, .int .i64 n, .bool false, .string (bs [])] 43)
                have hRx := hR.stays ((Below.refl _ _).alloc (Nat.le_refl _) (.cells #[.int .i64 1, .int .i64 n, .bool false, .string (bs [])] 43))
                have hfx := hbx.frozen 0
                clear hR hB HD herr hg
                go_wp2_with (first
                  | (refine wpList_load_mid (by rfl) 43 _ (by rfl) _ _ (by rfl) _ _ (by exact hc) Tryd.underlying43 (by rfl) (by kernel_rfl) ?_)
                  | (refine wpList_new_struct (by rfl) (by rfl) 43 (by rfl) _ _ (by rfl) [.int .i64 1, .int .i64 n, .bool is, .string (bs s)] infoThing (by rfl) (by rfl) (Thing.one ⟨1, n, is, s⟩) (by rfl) (by rfl) ?_)
                  | fail)
                change Code.wp _ _ _ _ (wr.alloc (.cells #[.int .i64 1, .int .i64 n, .bool false, .string (bs [])] 43))
                generalize wr.alloc (.cells #[.int .i64 1, .int .i64 n, .bool false, .string (bs [])] 43) = w6 at *
                have hRd : Rd w6.drew g ⟨bytesOf (ts.drop k), 0⟩ := hRx
                have hbd : Blk w6.drew wr.heap.size 43 (Thing.mk 1 n false []).vals := hbx
                have HBd := Lib.hid hBx.drew
                clear hbx hRx hBx hc
                go_region_held3 (fun W => W.cell? ⟨wr.heap.size, 0, none⟩ = some (.int .i64 1) ∧ rowOf W wr.heap.size 0 4 = some (Thing.mk 1 n false []).vals.toArray) (first | exact ⟨c1, r1⟩ | assumption | exact ⟨c7, r7⟩) (first
                  | (go_at_call 28; refine (HT.out _ hRd).mono ?_; rintro e w7 ⟨rfl, hQ⟩; have hb7 := hQ.keeps hbd (by omega); have c7 := hb7.cell 0; rw [Thing.tlat0] at c7; have r7 := hb7.row 0 4 (by rw [Thing.tlen]; omega); have hR7 := hQ.1; have HB7 := Lib.hid (HBd.out.trans (hQ.below (by omega) HBd.out.size))))
                all_goals
                  have HR7 := Lib.hid hR7
                  clear hR7 hQ hb7 c7 r7
                  go_wp2
                  go_roundw
                  case rel => exact ⟨k + 1, by omega, by go_num, HR7.out, HB7.out⟩
                  case measure => simp [intOf]; omega
              · have hnt : (Thing.mk 2 n is s).norm = ⟨2, n, false, []⟩ := rfl
                have HT := Lib.hid (fun W (h : Rd W g ⟨bytesOf (ts.drop k), 0⟩) => take_back g (Thing.mk 2 n is s) ⟨2, n, false, []⟩ (bytesOf (ts.drop (k + 1))) W (by rw [← HD.out]; exact h) herr (by simp [otherKind]) h2 hgn (by rw [← HD.out]; exact hdl) hnt)
                have hbx : Blk (wr.alloc (.cells #[.int .i64 2, .int .i64 n, .bool false, .string (bs [])] 43)) wr.heap.size 43 (Thing.mk 2 n false []).vals := Blk.new _ _ _
                have r1 := hbx.row 0 4 (by rw [Thing.tlen]; omega)
                have c1 := hbx.cell 0
                rw [Thing.tlat0] at c1
                have hBx := hB.alloc hB.size (.cells #[.int .i64 2, .int .i64 n, .bool false, .string (bs [])] 43)
                have hRx := hR.stays ((Below.refl _ _).alloc (Nat.le_refl _) (.cells #[.int .i64 2, .int .i64 n, .bool false, .string (bs [])] 43))
                have hfx := hbx.frozen 0
                clear hR hB HD herr hg
                go_wp2_with (first
                  | (refine wpList_load_mid (by rfl) 43 _ (by rfl) _ _ (by rfl) _ _ (by exact hc) Tryd.underlying43 (by rfl) (by kernel_rfl) ?_)
                  | (refine wpList_new_struct (by rfl) (by rfl) 43 (by rfl) _ _ (by rfl) [.int .i64 2, .int .i64 n, .bool is, .string (bs s)] infoThing (by rfl) (by rfl) (Thing.one ⟨2, n, is, s⟩) (by rfl) (by rfl) ?_)
                  | fail)
                change Code.wp _ _ _ _ (wr.alloc (.cells #[.int .i64 2, .int .i64 n, .bool false, .string (bs [])] 43))
                generalize wr.alloc (.cells #[.int .i64 2, .int .i64 n, .bool false, .string (bs [])] 43) = w6 at *
                have hRd : Rd w6.drew g ⟨bytesOf (ts.drop k), 0⟩ := hRx
                have hbd : Blk w6.drew wr.heap.size 43 (Thing.mk 2 n false []).vals := hbx
                have HBd := Lib.hid hBx.drew
                clear hbx hRx hBx hc
                go_region_held3 (fun W => W.cell? ⟨wr.heap.size, 0, none⟩ = some (.int .i64 2) ∧ rowOf W wr.heap.size 0 4 = some (Thing.mk 2 n false []).vals.toArray) (first | exact ⟨c1, r1⟩ | assumption | exact ⟨c7, r7⟩) (first
                  | (go_at_call 28; refine (HT.out _ hRd).mono ?_; rintro e w7 ⟨rfl, hQ⟩; have hb7 := hQ.keeps hbd (by omega); have c7 := hb7.cell 0; rw [Thing.tlat0] at c7; have r7 := hb7.row 0 4 (by rw [Thing.tlen]; omega); have hR7 := hQ.1; have HB7 := Lib.hid (HBd.out.trans (hQ.below (by omega) HBd.out.size))))
                all_goals
                  have HR7 := Lib.hid hR7
                  clear hR7 hQ hb7 c7 r7
                  go_wp2
                  go_roundw
                  case rel => exact ⟨k + 1, by omega, by go_num, HR7.out, HB7.out⟩
                  case measure => simp [intOf]; omega
              · have hnt : (Thing.mk 3 n is s).norm = ⟨3, 0, is, []⟩ := rfl
                have HT := Lib.hid (fun W (h : Rd W g ⟨bytesOf (ts.drop k), 0⟩) => take_back g (Thing.mk 3 n is s) ⟨3, 0, is, []⟩ (bytesOf (ts.drop (k + 1))) W (by rw [← HD.out]; exact h) herr (by simp [otherKind]) h2 hgn (by rw [← HD.out]; exact hdl) hnt)
                have hbx : Blk (wr.alloc (.cells #[.int .i64 3, .int .i64 0, .bool is, .string (bs [])] 43)) wr.heap.size 43 (Thing.mk 3 0 is []).vals := Blk.new _ _ _
                have r1 := hbx.row 0 4 (by rw [Thing.tlen]; omega)
                have c1 := hbx.cell 0
                rw [Thing.tlat0] at c1
                have hBx := hB.alloc hB.size (.cells #[.int .i64 3, .int .i64 0, .bool is, .string (bs [])] 43)
                have hRx := hR.stays ((Below.refl _ _).alloc (Nat.le_refl _) (.cells #[.int .i64 3, .int .i64 0, .bool is, .string (bs [])] 43))
                have hfx := hbx.frozen 0
                clear hR hB HD herr hg
                go_wp2_with (first
                  | (refine wpList_load_mid (by rfl) 43 _ (by rfl) _ _ (by rfl) _ _ (by exact hc) Tryd.underlying43 (by rfl) (by kernel_rfl) ?_)
                  | (refine wpList_new_struct (by rfl) (by rfl) 43 (by rfl) _ _ (by rfl) [.int .i64 3, .int .i64 n, .bool is, .string (bs s)] infoThing (by rfl) (by rfl) (Thing.one ⟨3, n, is, s⟩) (by rfl) (by rfl) ?_)
                  | fail)
                change Code.wp _ _ _ _ (wr.alloc (.cells #[.int .i64 3, .int .i64 0, .bool is, .string (bs [])] 43))
                generalize wr.alloc (.cells #[.int .i64 3, .int .i64 0, .bool is, .string (bs [])] 43) = w6 at *
                have hRd : Rd w6.drew g ⟨bytesOf (ts.drop k), 0⟩ := hRx
                have hbd : Blk w6.drew wr.heap.size 43 (Thing.mk 3 0 is []).vals := hbx
                have HBd := Lib.hid hBx.drew
                clear hbx hRx hBx hc
                go_region_held3 (fun W => W.cell? ⟨wr.heap.size, 0, none⟩ = some (.int .i64 3) ∧ rowOf W wr.heap.size 0 4 = some (Thing.mk 3 0 is []).vals.toArray) (first | exact ⟨c1, r1⟩ | assumption | exact ⟨c7, r7⟩) (first
                  | (go_at_call 28; refine (HT.out _ hRd).mono ?_; rintro e w7 ⟨rfl, hQ⟩; have hb7 := hQ.keeps hbd (by omega); have c7 := hb7.cell 0; rw [Thing.tlat0] at c7; have r7 := hb7.row 0 4 (by rw [Thing.tlen]; omega); have hR7 := hQ.1; have HB7 := Lib.hid (HBd.out.trans (hQ.below (by omega) HBd.out.size))))
                all_goals
                  have HR7 := Lib.hid hR7
                  clear hR7 hQ hb7 c7 r7
                  go_wp2
                  go_roundw
                  case rel => exact ⟨k + 1, by omega, by go_num, HR7.out, HB7.out⟩
                  case measure => simp [intOf]; omega
              · have hnt : (Thing.mk 4 n is s).norm = ⟨4, 0, false, s⟩ := rfl
                have HT := Lib.hid (fun W (h : Rd W g ⟨bytesOf (ts.drop k), 0⟩) => take_back g (Thing.mk 4 n is s) ⟨4, 0, false, s⟩ (bytesOf (ts.drop (k + 1))) W (by rw [← HD.out]; exact h) herr (by simp [otherKind]) h2 hgn (by rw [← HD.out]; exact hdl) hnt)
                have hbx : Blk (wr.alloc (.cells #[.int .i64 4, .int .i64 0, .bool false, .string (bs s)] 43)) wr.heap.size 43 (Thing.mk 4 0 false s).vals := Blk.new _ _ _
                have r1 := hbx.row 0 4 (by rw [Thing.tlen]; omega)
                have c1 := hbx.cell 0
                rw [Thing.tlat0] at c1
                have hBx := hB.alloc hB.size (.cells #[.int .i64 4, .int .i64 0, .bool false, .string (bs s)] 43)
                have hRx := hR.stays ((Below.refl _ _).alloc (Nat.le_refl _) (.cells #[.int .i64 4, .int .i64 0, .bool false, .string (bs s)] 43))
                have hfx := hbx.frozen 0
                clear hR hB HD herr hg
                go_wp2_with (first
                  | (refine wpList_load_mid (by rfl) 43 _ (by rfl) _ _ (by rfl) _ _ (by exact hc) Tryd.underlying43 (by rfl) (by kernel_rfl) ?_)
                  | (refine wpList_new_struct (by rfl) (by rfl) 43 (by rfl) _ _ (by rfl) [.int .i64 4, .int .i64 n, .bool is, .string (bs s)] infoThing (by rfl) (by rfl) (Thing.one ⟨4, n, is, s⟩) (by rfl) (by rfl) ?_)
                  | fail)
                change Code.wp _ _ _ _ (wr.alloc (.cells #[.int .i64 4, .int .i64 0, .bool false, .string (bs s)] 43))
                generalize wr.alloc (.cells #[.int .i64 4, .int .i64 0, .bool false, .string (bs s)] 43) = w6 at *
                have hRd : Rd w6.drew g ⟨bytesOf (ts.drop k), 0⟩ := hRx
                have hbd : Blk w6.drew wr.heap.size 43 (Thing.mk 4 0 false s).vals := hbx
                have HBd := Lib.hid hBx.drew
                clear hbx hRx hBx hc
                go_region_held3 (fun W => W.cell? ⟨wr.heap.size, 0, none⟩ = some (.int .i64 4) ∧ rowOf W wr.heap.size 0 4 = some (Thing.mk 4 0 false s).vals.toArray) (first | exact ⟨c1, r1⟩ | assumption | exact ⟨c7, r7⟩) (first
                  | (go_at_call 28; refine (HT.out _ hRd).mono ?_; rintro e w7 ⟨rfl, hQ⟩; have hb7 := hQ.keeps hbd (by omega); have c7 := hb7.cell 0; rw [Thing.tlat0] at c7; have r7 := hb7.row 0 4 (by rw [Thing.tlen]; omega); have hR7 := hQ.1; have HB7 := Lib.hid (HBd.out.trans (hQ.below (by omega) HBd.out.size))))
                all_goals
                  have HR7 := Lib.hid hR7
                  clear hR7 hQ hb7 c7 r7
                  go_wp2
                  go_roundw
                  case rel => exact ⟨k + 1, by omega, by go_num, HR7.out, HB7.out⟩
                  case measure => simp [intOf]; omega
              · have hnt : (Thing.mk 5 n is s).norm = ⟨5, 0, false, s⟩ := rfl
                have HT := Lib.hid (fun W (h : Rd W g ⟨bytesOf (ts.drop k), 0⟩) => take_back g (Thing.mk 5 n is s) ⟨5, 0, false, s⟩ (bytesOf (ts.drop (k + 1))) W (by rw [← HD.out]; exact h) herr (by simp [otherKind]) h2 hgn (by rw [← HD.out]; exact hdl) hnt)
                have hbx : Blk (wr.alloc (.cells #[.int .i64 5, .int .i64 0, .bool false, .string (bs s)] 43)) wr.heap.size 43 (Thing.mk 5 0 false s).vals := Blk.new _ _ _
                have r1 := hbx.row 0 4 (by rw [Thing.tlen]; omega)
                have c1 := hbx.cell 0
                rw [Thing.tlat0] at c1
                have hBx := hB.alloc hB.size (.cells #[.int .i64 5, .int .i64 0, .bool false, .string (bs s)] 43)
                have hRx := hR.stays ((Below.refl _ _).alloc (Nat.le_refl _) (.cells #[.int .i64 5, .int .i64 0, .bool false, .string (bs s)] 43))
                have hfx := hbx.frozen 0
                clear hR hB HD herr hg
                go_wp2_with (first
                  | (refine wpList_load_mid (by rfl) 43 _ (by rfl) _ _ (by rfl) _ _ (by exact hc) Tryd.underlying43 (by rfl) (by kernel_rfl) ?_)
                  | (refine wpList_new_struct (by rfl) (by rfl) 43 (by rfl) _ _ (by rfl) [.int .i64 5, .int .i64 n, .bool is, .string (bs s)] infoThing (by rfl) (by rfl) (Thing.one ⟨5, n, is, s⟩) (by rfl) (by rfl) ?_)
                  | fail)
                change Code.wp _ _ _ _ (wr.alloc (.cells #[.int .i64 5, .int .i64 0, .bool false, .string (bs s)] 43))
                generalize wr.alloc (.cells #[.int .i64 5, .int .i64 0, .bool false, .string (bs s)] 43) = w6 at *
                have hRd : Rd w6.drew g ⟨bytesOf (ts.drop k), 0⟩ := hRx
                have hbd : Blk w6.drew wr.heap.size 43 (Thing.mk 5 0 false s).vals := hbx
                have HBd := Lib.hid hBx.drew
                clear hbx hRx hBx hc
                go_region_held3 (fun W => W.cell? ⟨wr.heap.size, 0, none⟩ = some (.int .i64 5) ∧ rowOf W wr.heap.size 0 4 = some (Thing.mk 5 0 false s).vals.toArray) (first | exact ⟨c1, r1⟩ | assumption | exact ⟨c7, r7⟩) (first
                  | (go_at_call 28; refine (HT.out _ hRd).mono ?_; rintro e w7 ⟨rfl, hQ⟩; have hb7 := hQ.keeps hbd (by omega); have c7 := hb7.cell 0; rw [Thing.tlat0] at c7; have r7 := hb7.row 0 4 (by rw [Thing.tlen]; omega); have hR7 := hQ.1; have HB7 := Lib.hid (HBd.out.trans (hQ.below (by omega) HBd.out.size))))
                all_goals
                  have HR7 := Lib.hid hR7
                  clear hR7 hQ hb7 c7 r7
                  go_wp2
                  go_roundw
                  case rel => exact ⟨k + 1, by omega, by go_num, HR7.out, HB7.out⟩
                  case measure => simp [intOf]; omega
              · cases is
                · have hnt : (Thing.mk 6 n false s).norm = ⟨6, 0, false, []⟩ := rfl
                  have HT := Lib.hid (fun W (h : Rd W g ⟨bytesOf (ts.drop k), 0⟩) => take_back g (Thing.mk 6 n false s) ⟨6, 0, false, []⟩ (bytesOf (ts.drop (k + 1))) W (by rw [← HD.out]; exact h) herr (by simp [otherKind]) h2 hgn (by rw [← HD.out]; exact hdl) hnt)
                  have hbx : Blk (wr.alloc (.cells #[.int .i64 6, .int .i64 0, .bool false, .string (bs [])] 43)) wr.heap.size 43 (Thing.mk 6 0 false []).vals := Blk.new _ _ _
                  have r1 := hbx.row 0 4 (by rw [Thing.tlen]; omega)
                  have c1 := hbx.cell 0
                  rw [Thing.tlat0] at c1
                  have hBx := hB.alloc hB.size (.cells #[.int .i64 6, .int .i64 0, .bool false, .string (bs [])] 43)
                  have hRx := hR.stays ((Below.refl _ _).alloc (Nat.le_refl _) (.cells #[.int .i64 6, .int .i64 0, .bool false, .string (bs [])] 43))
                  have hfx := hbx.frozen 0
                  clear hR hB HD herr hg
                  go_wp2_with (first
                    | (refine wpList_load_mid (by rfl) 43 _ (by rfl) _ _ (by rfl) _ _ (by exact hc) Tryd.underlying43 (by rfl) (by kernel_rfl) ?_)
                    | (refine wpList_new_struct (by rfl) (by rfl) 43 (by rfl) _ _ (by rfl) [.int .i64 6, .int .i64 n, .bool false, .string (bs s)] infoThing (by rfl) (by rfl) (Thing.one ⟨6, n, false, s⟩) (by rfl) (by rfl) ?_)
                    | fail)
                  change Code.wp _ _ _ _ (wr.alloc (.cells #[.int .i64 6, .int .i64 0, .bool false, .string (bs [])] 43))
                  generalize wr.alloc (.cells #[.int .i64 6, .int .i64 0, .bool false, .string (bs [])] 43) = w6 at *
                  have hRd : Rd w6.drew g ⟨bytesOf (ts.drop k), 0⟩ := hRx
                  have hbd : Blk w6.drew wr.heap.size 43 (Thing.mk 6 0 false []).vals := hbx
                  have HBd := Lib.hid hBx.drew
                  clear hbx hRx hBx hc
                  go_region_held3 (fun W => W.cell? ⟨wr.heap.size, 0, none⟩ = some (.int .i64 6) ∧ rowOf W wr.heap.size 0 4 = some (Thing.mk 6 0 false []).vals.toArray) (first | exact ⟨c1, r1⟩ | assumption | exact ⟨c7, r7⟩) (first
                    | (go_at_call 28; refine (HT.out _ hRd).mono ?_; rintro e w7 ⟨rfl, hQ⟩; have hb7 := hQ.keeps hbd (by omega); have c7 := hb7.cell 0; rw [Thing.tlat0] at c7; have r7 := hb7.row 0 4 (by rw [Thing.tlen]; omega); have hR7 := hQ.1; have HB7 := Lib.hid (HBd.out.trans (hQ.below (by omega) HBd.out.size))))
                  all_goals
                    have HR7 := Lib.hid hR7
                    clear hR7 hQ hb7 c7 r7
                    go_wp2
                    go_roundw
                    case rel => exact ⟨k + 1, by omega, by go_num, HR7.out, HB7.out⟩
                    case measure => simp [intOf]; omega
                · have hnt : (Thing.mk 6 n true s).norm = ⟨6, n, true, []⟩ := rfl
                  have HT := Lib.hid (fun W (h : Rd W g ⟨bytesOf (ts.drop k), 0⟩) => take_back g (Thing.mk 6 n true s) ⟨6, n, true, []⟩ (bytesOf (ts.drop (k + 1))) W (by rw [← HD.out]; exact h) herr (by simp [otherKind]) h2 hgn (by rw [← HD.out]; exact hdl) hnt)
                  have hbx : Blk (wr.alloc (.cells #[.int .i64 6, .int .i64 n, .bool true, .string (bs [])] 43)) wr.heap.size 43 (Thing.mk 6 n true []).vals := Blk.new _ _ _
                  have r1 := hbx.row 0 4 (by rw [Thing.tlen]; omega)
                  have c1 := hbx.cell 0
                  rw [Thing.tlat0] at c1
                  have hBx := hB.alloc hB.size (.cells #[.int .i64 6, .int .i64 n, .bool true, .string (bs [])] 43)
                  have hRx := hR.stays ((Below.refl _ _).alloc (Nat.le_refl _) (.cells #[.int .i64 6, .int .i64 n, .bool true, .string (bs [])] 43))
                  have hfx := hbx.frozen 0
                  clear hR hB HD herr hg
                  go_wp2_with (first
                    | (refine wpList_load_mid (by rfl) 43 _ (by rfl) _ _ (by rfl) _ _ (by exact hc) Tryd.underlying43 (by rfl) (by kernel_rfl) ?_)
                    | (refine wpList_new_struct (by rfl) (by rfl) 43 (by rfl) _ _ (by rfl) [.int .i64 6, .int .i64 n, .bool true, .string (bs s)] infoThing (by rfl) (by rfl) (Thing.one ⟨6, n, true, s⟩) (by rfl) (by rfl) ?_)
                    | fail)
                  change Code.wp _ _ _ _ (wr.alloc (.cells #[.int .i64 6, .int .i64 n, .bool true, .string (bs [])] 43))
                  generalize wr.alloc (.cells #[.int .i64 6, .int .i64 n, .bool true, .string (bs [])] 43) = w6 at *
                  have hRd : Rd w6.drew g ⟨bytesOf (ts.drop k), 0⟩ := hRx
                  have hbd : Blk w6.drew wr.heap.size 43 (Thing.mk 6 n true []).vals := hbx
                  have HBd := Lib.hid hBx.drew
                  clear hbx hRx hBx hc
                  go_region_held3 (fun W => W.cell? ⟨wr.heap.size, 0, none⟩ = some (.int .i64 6) ∧ rowOf W wr.heap.size 0 4 = some (Thing.mk 6 n true []).vals.toArray) (first | exact ⟨c1, r1⟩ | assumption | exact ⟨c7, r7⟩) (first
                    | (go_at_call 28; refine (HT.out _ hRd).mono ?_; rintro e w7 ⟨rfl, hQ⟩; have hb7 := hQ.keeps hbd (by omega); have c7 := hb7.cell 0; rw [Thing.tlat0] at c7; have r7 := hb7.row 0 4 (by rw [Thing.tlen]; omega); have hR7 := hQ.1; have HB7 := Lib.hid (HBd.out.trans (hQ.below (by omega) HBd.out.size))))
                  all_goals
                    have HR7 := Lib.hid hR7
                    clear hR7 hQ hb7 c7 r7
                    go_wp2
                    go_roundw
                    case rel => exact ⟨k + 1, by omega, by go_num, HR7.out, HB7.out⟩
                    case measure => simp [intOf]; omega
              · exact absurd hk7 hko
              -- END
          · obtain rfl : k = ts.length := by omega
            have hE : bytesOf (ts.drop ts.length) = [] := by simp [bytesOf]
            rw [hE] at hR
            clear hE hk hlt
            go_wp2_with fail
            refine (rDone_any g _ _ hR).mono ?_
            rintro e w6 ⟨rfl, rfl⟩
            go_wp2_with fail
            refine (xknown_any _).mono ?_
            rintro e w7 ⟨rfl, hb7⟩
            go_wp2
            go_ret
            exact ⟨rfl, below_then hB hb7⟩
end Go.Proofs.YtolcecpmiepggaaDoor
