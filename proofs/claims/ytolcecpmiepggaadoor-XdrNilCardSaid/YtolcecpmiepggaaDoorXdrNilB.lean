/-
  Layer 1, walks: the law XdrNil. No condition but machine numbers.
-/
import Derived.Test.YtolcecpmiepggaaDoorXdrNilA
namespace Go.Proofs.YtolcecpmiepggaaDoor
open Go.RowKit
attribute [local go_sem ↓] Go.wp_at_zero Go.wp_at_succ
attribute [local go_sem] rowAt_ptr rowOf_drew rowOf_drewN rowOf_alloc_past rowOf_new
attribute [local go_sem ↓] ldThing

theorem eqlThing_same (x : Thing) (w : World) : (binOp .eql 43 (.agg x.vals.toArray) (.agg x.vals.toArray)).run Tryd.prog w = .ok (.bool true) w := eql_same leafsThing (by kernel_rfl) w _ _ (by rfl) rfl
attribute [local go_sem ↓] eqlThing_same

attribute [local go_sem] guardThing Thing.tlat0 Thing.tlat1 Thing.tlat2 Thing.tlat3

set_option maxRecDepth 20000 in
set_option maxHeartbeats 6400000 in
theorem xdrNil_any (t : Thing) (w : World) (hg : t.good) : Calls Tryd.prog 9 #[.agg t.vals.toArray] w fun e w' => e = .returned (.bool true) ∧ Below w.heap.size w w' := by
  have hsz := bs_size t.s
  have hml := hg.2.2
  unfold maxLen at hml
  have hbx := Blk.new w 43 t.vals
  have hr := range_new w t.vals 43
  have c0 : (w.alloc (.cells t.vals.toArray 43)).cell? ⟨w.heap.size, 0, none⟩ = some (.int .i64 t.kind) := hr 0 _ (Thing.tlat0 _)
  have c1 : (w.alloc (.cells t.vals.toArray 43)).cell? ⟨w.heap.size, 1, none⟩ = some (.int .i64 t.n) := by have := hr 1 _ (Thing.tlat1 _); simpa using this
  have c3 : (w.alloc (.cells t.vals.toArray 43)).cell? ⟨w.heap.size, 3, none⟩ = some (.string (bs t.s)) := by have := hr 3 _ (Thing.tlat3 _); simpa using this
  clear hr
  have hBx : Below w.heap.size w (w.alloc (.cells t.vals.toArray 43)) := (Below.refl _ _).alloc (Nat.le_refl _) _
  have hrx : rowOf (w.alloc (.cells t.vals.toArray 43)) w.heap.size 0 4 = some t.vals.toArray := hbx.row 0 4 (by rw [Thing.tlen]; omega)
  have hlt := hbx.lt
  have hfz := hbx.frozen
  clear hbx
  by_cases h2 : 200 < t.s.length
  · have HB := Lib.hid hBx
    clear hBx
    go_enter Tryd.func9, Tryd.ntmps9
    go_wp2_with fail
    refine (xknown_any _).mono ?_
    rintro e w2 ⟨rfl, hb⟩
    go_wp2
    go_ret
    exact ⟨rfl, below_then HB.out hb⟩
  have h2' : ¬ (200 : Int) < (t.s.length : Int) := by omega
  have hcase : (t.kind < 1 ∧ nilErr t.kind = 0) ∨ (¬ t.kind < 1 ∧ 6 < t.kind ∧ nilErr t.kind = 0) ∨ (¬ t.kind < 1 ∧ ¬ 6 < t.kind ∧ nilErr t.kind = 1) := by
    unfold nilErr
    by_cases k1 : t.kind < 1
    · exact .inl ⟨k1, by simp [k1]⟩
    · by_cases k2 : 6 < t.kind
      · exact .inr (.inl ⟨k1, k2, by simp [k2]⟩)
      · exact .inr (.inr ⟨k1, k2, by simp [k1, k2]⟩)
  rcases hcase with ⟨k1, hn⟩ | ⟨k1, k2, hn⟩ | ⟨k1, k2, hn⟩
  all_goals
    have HN := Lib.hid hn
    have HB := Lib.hid hBx
    clear hn hBx
    go_enter Tryd.func9, Tryd.ntmps9
    go_wp2_with fail
    change Code.wp _ _ _ _ (w.alloc (.cells t.vals.toArray 43))
    generalize w.alloc (.cells t.vals.toArray 43) = wb at *
    go_region_held3 (fun W => Stb wb W) (first | exact Stb.start | assumption) (first
      | (go_at_call 30; refine (put_nil t _).mono ?_; rintro e wP ⟨he, hbP⟩; rw [HN.out] at he; subst he; have hSP := Stb.call (by assumption) hbP)
      | (go_at_call 32; refine (wText_nil _).mono ?_; rintro e w' ⟨rfl, rfl⟩)
      | (go_at_call 37; refine (wLen_nil _).mono ?_; rintro e w' ⟨rfl, rfl⟩)
      | (go_at_call 28; refine (takeN_nil t.kind t.n _).mono ?_; rintro e wT ⟨rfl, hbT⟩; have hST := Stb.call (by assumption) hbT)
      | (go_at_call 29; refine (rErr_nil _).mono ?_; rintro e w' ⟨rfl, rfl⟩)
      | (go_at_call 34; refine (rDone_nil _).mono ?_; rintro e w' ⟨rfl, rfl⟩)
      | (go_at_call 31; refine (rLeft_nil _).mono ?_; rintro e w' ⟨rfl, rfl⟩)
      | (go_at_call 26; refine (xknown_any _).mono ?_; rintro e wK ⟨rfl, hbK⟩; have hSK := Stb.call (by assumption) hbK)
      | fail)
    all_goals
      have HBK := Lib.hid (below_then HB.out hSK.below)
      clear hSP hST hbP hbT hbK hSK c0 c1 c3 hrx hfz
      go_wp2
      go_ret
      exact ⟨rfl, HBK.out⟩
end Go.Proofs.YtolcecpmiepggaaDoor
