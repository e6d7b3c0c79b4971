/-
  Layer 7, walks: the closure that lays a letter's field. Conditions as told.
-/
import Derived.Test.YtjepemfllgjhfaaCallWalkH
namespace Go.Proofs.Ytjepemfllgjhfaa
open Go.RowKit
attribute [local go_sem ↓] Go.wp_at_zero Go.wp_at_succ
attribute [local go_sem] rowAt_ptr rowOf_drew rowOf_drewN rowOf_alloc_past rowOf_new
attribute [local go_sem ↓] ldSet ldOpt ldCall

attribute [local go_sem] Call.at0 Call.lat0 Call.at1 Call.lat1 Call.at2 Call.lat2 Call.at3 Call.lat3 Call.at4 Call.lat4 Call.at5 Call.lat5 Call.at6 Call.lat6 Call.at7 Call.lat7 Call.at8 Call.lat8 Call.at9 Call.lat9 Call.at10 Call.lat10 Call.at11 Call.lat11 Call.at12 Call.lat12 Call.at13 Call.lat13 Call.at14 Call.lat14 Call.at15 Call.lat15 Call.at16 Call.lat16 Call.at17 Call.lat17 Call.at18 Call.lat18 Call.at19 Call.lat19 Call.at20 Call.lat20 Call.at21 Call.lat21 Call.at22 Call.lat22 Call.at23 Call.lat23 Call.sub0_24 Call.lsub0_24 Call.sub9_10 Call.lsub9_10 Call.sub9_2 Call.lsub9_2 Call.sub11_2 Call.lsub11_2 Call.sub13_2 Call.lsub13_2 Call.sub15_2 Call.lsub15_2 Call.sub17_2 Call.lsub17_2 Call.sub19_2 Call.lsub19_2 Call.len Sett.at0 Sett.lat0 Sett.at1 Sett.lat1 Sett.at2 Sett.lat2 Sett.at3 Sett.lat3 Sett.at4 Sett.lat4 Sett.at5 Sett.lat5 Sett.at6 Sett.lat6 Sett.at7 Sett.lat7 Sett.at8 Sett.lat8 Sett.at9 Sett.lat9 Sett.sub0_10 Sett.lsub0_10 Sett.sub0_2 Sett.lsub0_2 Sett.sub2_2 Sett.lsub2_2 Sett.sub4_2 Sett.lsub4_2 Sett.sub6_2 Sett.lsub6_2 Sett.sub8_2 Sett.lsub8_2 Sett.len Opt.at0 Opt.lat0 Opt.at1 Opt.lat1 Opt.sub0_2 Opt.lsub0_2 Opt.len

theorem row_ne_itr {w : World} {base : Nat} {e : TypeId} {size n b pos : Nat} {v : Value} {xs : List Value} {l : List UInt8} (h : w.ownsRow base e size v n xs) (hI : Itr w b l pos) : v.ownBlock ≠ some b := by
  intro hb
  rcases h.2 with ⟨rfl, _⟩ | ⟨g, cap, cur, rfl, _, hg, _⟩
  · simp [Value.ownBlock] at hb
  · simp [Value.ownBlock] at hb
    subst hb
    unfold Itr at hI
    rw [hg] at hI
    cases hI
theorem Wr.foot_ne_itr {w : World} {g b pos : Nat} {sv : Value} {m l : List UInt8} (h : Wr w g sv m) (hI : Itr w b l pos) : ¬ foot g sv b := by
  intro hf
  rcases hf with rfl | hf
  · exact h.1.ne_itr hI rfl
  · exact row_ne_itr h.2 hI hf
/-- the bytes of the first k letters' fields -/
def cLaid (x : Call) (l : List UInt8) (k : Nat) : List UInt8 := (l.take k).flatMap fun c => cBytes x c.toNat
theorem cLaid_succ (x : Call) (l : List UInt8) (k : Nat) (hk : k < l.length) : cLaid x l (k + 1) = cLaid x l k ++ cBytes x l[k].toNat := by
  unfold cLaid
  rw [List.take_add_one, List.getElem?_eq_getElem hk, List.flatMap_append]
  simp
/-- what holds while a call is laid -/
structure Laying (w0 : World) (g h b : Nat) (x : Call) (l : List UInt8) (k : Nat) (W : World) : Prop where
  wr : ∃ sv, Wr W g sv (cLaid x l k) ∧ ∀ i, sv.ownBlock = some i → w0.heap.size ≤ i
  H : Blk W h 97 [ptr g]
  X : Blk W b 89 x.vals
  B : Below w0.heap.size w0 W

theorem put1_any (w0 : World) (g h b : Nat) (hg0 : w0.heap.size ≤ g) (x : Call) (l : List UInt8) (k : Nat) (hk : k < l.length) (hl : cLetter l[k].toNat) (hm : cMay x l[k].toNat = true) (hgo : x.offset ≤ 9223372036854775807) (hgk : x.cookie ≤ 9223372036854775807) (hgv : x.verf ≤ 9223372036854775807) (hgs : x.set.good) (hgg : x.guard.n ≤ 9223372036854775807) (hlen : (cLaid x l k).length ≤ 900000000000) (W : World) (hS : Laying w0 g h b x l k W) :
    Calls Try.prog 58 #[.int .i32 l[k].toNat, .pointer (some ⟨h, 0, none⟩), .pointer (some ⟨b, 0, none⟩)] W fun e W' => e = .returned (.bool true) ∧ Laying w0 g h b x l (k + 1) W' ∧ ∀ b l pos, Itr W b l pos → Itr W' b l pos := by
  have HT := Lib.hid (cLaid_succ x l k hk)
  generalize l[k].toNat = c at *
  obtain ⟨⟨sv, hW, hrow⟩, hH, hX, hB⟩ := hS
  have hc := hH.cell
  go_enter Try.func58, Try.ntmps58
  go_wp2_with fail
  refine (claid_any g b sv _ x c _ hl hW hX hm hgo hgk hgv hgs hgg hlen).mono ?_
  rintro e w1 ⟨rfl, sv1, hW1, hr1, hT1⟩
  rw [← HT.out] at hW1
  have HH : Laying w0 g h b x l (k + 1) w1 := ⟨⟨sv1, hW1, fun i hi => by
      rcases hr1 i hi with h | h
      · exact hrow i h
      · exact Nat.le_trans hB.size h⟩, hW.keeps hH (by decide) (by decide) hT1, hW.keeps hX (by decide) (by decide) hT1,
    hB.trans (hT1.below (fun i _ hf => by
      rcases hf with rfl | hf
      · exact hg0
      · exact hrow i hf) hB.size)⟩
  have HI : ∀ b l pos, Itr W b l pos → Itr w1 b l pos := fun b l pos h => h.touch hT1 (hW.foot_ne_itr h)
  clear hW1 hr1 hT1 hH hX hB hW hrow
  go_wp2
  go_ret
  exact ⟨rfl, HH, HI⟩
end Go.Proofs.Ytjepemfllgjhfaa
