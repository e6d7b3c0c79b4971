/-
  Layer 1, walks: the law XdrSame. No condition but machine numbers.
-/
import Derived.Test.YtolcecpmiepggaaDoorXdrLawB
import Derived.Test.YtolcecpmiepggaaDoorXdrSamePure
namespace Go.Proofs.YtolcecpmiepggaaDoor
open Go.RowKit
attribute [local go_sem ↓] Go.wp_at_zero Go.wp_at_succ
attribute [local go_sem] rowAt_ptr rowOf_drew rowOf_drewN rowOf_alloc_past rowOf_new
attribute [local go_sem ↓] ldThing neqThing_same

attribute [local go_sem] guardThing Thing.tlat0 Thing.tlat1 Thing.tlat2 Thing.tlat3

theorem rowCell1 {α : Type} {w : World} {sz : Nat} {A : Option Addr} {l : List α} {vals : α → List Value} (hA : At w sz A (l.map vals)) {k : Nat} (hk : k < l.length) :
    ∃ b off, A = some ⟨b, off, none⟩ ∧ b < w.heap.size ∧ ∀ j u, (vals l[k])[j]? = some u → w.cell? ⟨b, off + k * sz + j, none⟩ = some u := by
  obtain ⟨b, off, rfl, hb, hc⟩ := hA.getD (k := k) (by simpa using hk)
  exact ⟨b, off, rfl, hb, fun j u hu => hc j u (by simpa using hu)⟩
def u8Row (b : UInt8) : List Value := [u8 b]
set_option maxRecDepth 20000 in
set_option maxHeartbeats 6400000 in
theorem xdrSame_any (s : List UInt8) (A : Option Addr) (c : Nat) (ks : List UInt8) (w : World) (hs : s.length ≤ maxLen) (hl : ks.length ≤ 9223372036854775807) (hA : At w 1 A (ks.map u8Row)) :
    Calls Tryd.prog 6 #[.string (bs s), .slice A ks.length c] w fun e w' => e = .returned (.bool true) ∧ Below w.heap.size w w' := by
  have hsz := bs_size s
  unfold maxLen at hs
  by_cases h3 : 300 < s.length
  · go_enter Tryd.func6, Tryd.ntmps6
    go_wp2_with fail
    refine (xknown_any _).mono ?_
    rintro e w2 ⟨rfl, hb⟩
    go_wp2
    go_ret
    exact ⟨rfl, hb⟩
  have h3' : ¬ (300 : Int) < (s.length : Int) := by omega
  by_cases h4 : 40 < ks.length
  · go_enter Tryd.func6, Tryd.ntmps6
    go_wp2_with fail
    refine (xknown_any _).mono ?_
    rintro e w2 ⟨rfl, hb⟩
    go_wp2
    go_ret
    exact ⟨rfl, hb⟩
  have h4' : ¬ (40 : Int) < (ks.length : Int) := by omega
  go_enter Tryd.func6, Tryd.ntmps6
  go_wp2_with fail
  refine (readNew_any s _).mono ?_
  rintro e w1 ⟨rfl, hR1, hB1⟩
  have hW2 := Wr.fresh w1
  have hX := (Below.refl w1.heap.size w1).alloc (Nat.le_refl _) (.cells #[.slice none 0 0] 41)
  have hR2 := hR1.stays hX
  have hB2 := below_then hB1 hX
  have hgh : w.heap.size < w1.heap.size := hR1.lt
  have HR2 := Lib.hid hR2
  have HW2 := Lib.hid hW2
  have HB2 := Lib.hid hB2
  clear hR1 hB1 hW2 hX hR2 hB2
  go_wp2
  generalize w1.alloc (.cells #[.slice none 0 0] 41) = w2 at *
  generalize w1.heap.size = h at *
  go_loopw [7, 8] (fun lv iv wr => ∃ (k : Nat) (r : Rs) (l : List UInt8) (sv : Value), k ≤ ks.length ∧ iv = .int .i64 k ∧ lv = .int .i64 (r.s.length : Nat) ∧ r.e = 0 ∧ l ++ r.s = s ∧ Rd wr w.heap.size r ∧ Wr wr h sv l ∧ (∀ j, sv.ownBlock = some j → h ≤ j) ∧ Below w.heap.size w wr) (fun _ iv _ => ks.length - (intOf iv).toNat)
  case atStart => exact ⟨0, ⟨s, 0⟩, [], _, Nat.zero_le _, rfl, rfl, rfl, rfl, HR2.out, HW2.out, by simp [Value.ownBlock], HB2.out⟩
  case round =>
    obtain ⟨k, r, l, sv, hk, rfl, rfl, hre, hls, hR, hW, hsv, hB⟩ := hrel
    have hlen : l.length + r.s.length = s.length := by rw [← hls, List.length_append]
    by_cases hlt : k < ks.length
    · obtain ⟨b, off, rfl, hb, hc⟩ := rowCell1 (hA.below hB) hlt
      have hc0 := hc 0 (u8 ks[k]) rfl
      rw [Nat.add_zero, Nat.mul_one] at hc0
      unfold u8 at hc0
      have hb256 := ks[k].toNat_lt
      generalize ks[k].toNat = q at *
      have hko : ¬ otherKind ((q : Int) % 6 + 1) := by rintro ⟨h1, h2, h3, h4, h5, h6⟩; omega
      have HS := Lib.hid (fun (h : (tTake ((q : Int) % 6 + 1) 7 r).2.e = 0) => tTake_same hre h hko)
      have hS0 : ∀ W, Rd W w.heap.size r → Calls Tryd.prog 28 #[.pointer (some ⟨w.heap.size, 0, none⟩), .int .i64 ((q : Int) % 6 + 1), .int .i64 7] W (Gave w.heap.size (tTake ((q : Int) % 6 + 1) 7 r).2 (.agg (tTake ((q : Int) % 6 + 1) 7 r).1.vals.toArray) W) := fun W h => take_any w.heap.size ((q : Int) % 6 + 1) 7 r W h (by omega) (by omega)
      clear hko
      generalize tTake ((q : Int) % 6 + 1) 7 r = x at *
      have HT := Lib.hid (hS0 _ hR)
      clear hS0
      go_wp2_with fail
      refine HT.out.mono ?_
      rintro e w3 ⟨rfl, hQ⟩
      have hR3 := hQ.1
      have hnf : ∀ k, foot h sv k → ¬ k = w.heap.size := fun k hf e => by
        rcases hf with rfl | hf
        · omega
        · have := hsv k hf; omega
      have hW3 : Wr w3 h sv l := hW.touch hQ.2 hnf
      have HB3 := Lib.hid (hB.trans (hQ.below (Nat.le_refl _) hB.size))
      have HNF := Lib.hid (fun e => hnf w.heap.size e rfl)
      clear hR hW hQ hB HT hnf
      have hbx := Blk.new w3 43 x.1.vals
      have HRx := Lib.hid (hR3.stays ((Below.refl _ _).alloc (Nat.le_refl _) (.cells x.1.vals.toArray 43)))
      have HWx := Lib.hid (hW3.alloc (.cells x.1.vals.toArray 43))
      have HBx := Lib.hid (HB3.out.alloc HB3.out.size (.cells x.1.vals.toArray 43))
      have hrx := hbx.row 0 4 (by rw [Thing.tlen]; omega)
      have hszx := hbx.lt
      clear hR3 hW3 hbx
      go_wp2_with (first | (refine wpList_new_struct (by rfl) (by rfl) 43 (by rfl) _ _ (by rfl) x.1.vals infoThing (by rfl) (by rfl) (Thing.one _) (by rfl) (by rfl) ?_) | fail)
      refine (rErr_any w.heap.size x.2 _ HRx.out).mono ?_
      rintro e w4 ⟨rfl, rfl⟩
      by_cases hxe : x.2.e = 0
      · obtain ⟨hby, her, hgd, hsl⟩ := HS.out hxe
        have hll : (l ++ x.1.bytes) ++ x.2.s = s := by rw [List.append_assoc, hby]; exact hls
        clear HS
        rw [hxe]
        go_wp2_with fail
        refine (put_any h sv l x.1 _ HWx.out hgd (by omega) (by omega)).mono ?_
        rintro e w5 ⟨rfl, sv5, hW5, hr5, hT5⟩
        have hR5 := HRx.out.touch hT5 HNF.out
        have hB5 : Below w.heap.size w w5 := HBx.out.trans (Moved.below (B := w.heap.size) ⟨sv5, hW5, hr5, hT5⟩ (Nat.le_of_lt hgh) (fun j hj => Nat.le_trans (Nat.le_of_lt hgh) (hsv j hj)) HBx.out.size)
        have hs5 : ∀ j, sv5.ownBlock = some j → h ≤ j := fun j hj => by
          rcases hr5 j hj with h1 | h1
          · exact hsv j h1
          · exact Nat.le_trans (by have := HWx.out.1.lt; omega) h1
        have HA5 := Lib.hid (And.intro hW5 (And.intro hB5 hs5))
        clear hr5 hT5 hW5 hB5 hs5 HRx HWx HBx HB3 hrx
        rw [her]
        go_wp2_with fail
        refine (rLeft_any w.heap.size x.2 _ hR5).mono ?_
        rintro e w6 ⟨rfl, rfl⟩
        have hlf : rLeft x.2 = x.2.s.length := by simp [rLeft, hxe]
        rw [hlf]
        have HR5 := Lib.hid hR5
        clear hR5
        go_wp2
        go_roundw
        case rel => exact ⟨k + 1, x.2, l ++ x.1.bytes, sv5, by omega, by go_num, rfl, hxe, hll, HR5.out, HA5.out.1, HA5.out.2.2, HA5.out.2.1⟩
        case measure => simp [intOf]; omega
      · have hxe2 : (x.2.e != 0) = true := by simpa using hxe
        clear hxe HS hrx hc0 hc
        have HC := Lib.hid (And.intro hls hlen)
        clear hre
        have hRl : (s.length : Int) - (r.s.length : Int) = (l.length : Int) := by omega
        have hp1 : (r.s.length : Int) ≤ (s.length : Int) := by omega
        have hp2 : (l.length : Int) ≤ (s.length : Int) := by omega
        have hp4 : (0 : Int) ≤ (l.length : Int) := by omega
        have hp5 : IntKind.i64.wrap ((s.length : Int) - (r.s.length : Int)) = (l.length : Int) := by rw [hRl]; exact IntWalk.i64_in _ (by omega)
        have hp6 : IntKind.i64.wrap (l.length : Int) = (l.length : Int) := IntWalk.i64_in _ (by omega)
        have hp3 : (bs s).extract 0 l.length = bs l := by rw [bs_take, ← hls, List.take_left']; rfl
        go_wp2_with fail
        go_region_held3 (fun W => Stb (w3.alloc (.cells x.1.vals.toArray 43)) W) (first | exact Stb.start | assumption) (first
          | (go_at_call 32; refine (wText_any h sv l _ (HWx.out.stays (Stb.below (by assumption)))).mono ?_; rintro e w' ⟨rfl, rfl⟩)
          | (go_at_call 26; refine (xknown_any _).mono ?_; rintro e wK ⟨rfl, hbK⟩; have hSK := Stb.call (by assumption) hbK)
          | fail)
        all_goals
          have HBK := Lib.hid (below_then HBx.out hSK.below)
          clear hSK hbK
          go_wp2
          go_ret
          exact ⟨rfl, HBK.out⟩
    · obtain rfl : k = ks.length := by omega
      have HWy := Lib.hid hW
      have HBy := Lib.hid hB
      have HSV := Lib.hid hsv
      clear hW hB hsv hA hre hk hlt hR
      have hRl : (s.length : Int) - (r.s.length : Int) = (l.length : Int) := by omega
      have hp1 : (r.s.length : Int) ≤ (s.length : Int) := by omega
      have hp2 : (l.length : Int) ≤ (s.length : Int) := by omega
      have hp4 : (0 : Int) ≤ (l.length : Int) := by omega
      have hp5 : IntKind.i64.wrap ((s.length : Int) - (r.s.length : Int)) = (l.length : Int) := by rw [hRl]; exact IntWalk.i64_in _ (by omega)
      have hp6 : IntKind.i64.wrap (l.length : Int) = (l.length : Int) := IntWalk.i64_in _ (by omega)
      have hp3 : (bs s).extract 0 l.length = bs l := by rw [bs_take, ← hls, List.take_left']; rfl
      go_wp2_with fail
      go_region_held3 (fun W => Stb wr W) (first | exact Stb.start | assumption) (first
        | (go_at_call 32; refine (wText_any h sv l _ (HWy.out.stays (Stb.below (by assumption)))).mono ?_; rintro e w' ⟨rfl, rfl⟩)
        | (go_at_call 26; refine (xknown_any _).mono ?_; rintro e wK ⟨rfl, hbK⟩; have hSK := Stb.call (by assumption) hbK)
        | fail)
      all_goals
        have HBK := Lib.hid (below_then HBy.out hSK.below)
        clear hSK hbK
        go_wp2
        go_ret
        exact ⟨rfl, HBK.out⟩
end Go.Proofs.YtolcecpmiepggaaDoor
