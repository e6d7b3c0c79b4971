/-
  Layer 7, walks: why a call may not be. No condition.
-/
import Derived.Test.YtjepemfllgjhfaaCallWalkD
import Derived.Test.YtjepemfllgjhfaaStructEq
namespace Go.Proofs.Ytjepemfllgjhfaa
open Go.RowKit
attribute [local go_sem ↓] Go.wp_at_zero Go.wp_at_succ
attribute [local go_sem] rowAt_ptr rowOf_drew rowOf_drewN rowOf_alloc_past rowOf_new
attribute [local go_sem ↓] ldSet ldOpt

attribute [local go_sem] Call.at0 Call.lat0 Call.at1 Call.lat1 Call.at2 Call.lat2 Call.at3 Call.lat3 Call.at4 Call.lat4 Call.at5 Call.lat5 Call.at6 Call.lat6 Call.at7 Call.lat7 Call.at8 Call.lat8 Call.at9 Call.lat9 Call.at10 Call.lat10 Call.at11 Call.lat11 Call.at12 Call.lat12 Call.at13 Call.lat13 Call.at14 Call.lat14 Call.at15 Call.lat15 Call.at16 Call.lat16 Call.at17 Call.lat17 Call.at18 Call.lat18 Call.at19 Call.lat19 Call.at20 Call.lat20 Call.at21 Call.lat21 Call.at22 Call.lat22 Call.at23 Call.lat23 Call.sub0_24 Call.lsub0_24 Call.sub9_10 Call.lsub9_10 Call.sub9_2 Call.lsub9_2 Call.sub11_2 Call.lsub11_2 Call.sub13_2 Call.lsub13_2 Call.sub15_2 Call.lsub15_2 Call.sub17_2 Call.lsub17_2 Call.sub19_2 Call.lsub19_2 Call.len Sett.at0 Sett.lat0 Sett.at1 Sett.lat1 Sett.at2 Sett.lat2 Sett.at3 Sett.lat3 Sett.at4 Sett.lat4 Sett.at5 Sett.lat5 Sett.at6 Sett.lat6 Sett.at7 Sett.lat7 Sett.at8 Sett.lat8 Sett.at9 Sett.lat9 Sett.sub0_10 Sett.lsub0_10 Sett.sub0_2 Sett.lsub0_2 Sett.sub2_2 Sett.lsub2_2 Sett.sub4_2 Sett.lsub4_2 Sett.sub6_2 Sett.lsub6_2 Sett.sub8_2 Sett.lsub8_2 Sett.len Opt.at0 Opt.lat0 Opt.at1 Opt.lat1 Opt.sub0_2 Opt.lsub0_2 Opt.len

def cLetter (c : Nat) : Prop := c = 102 ∨ c = 70 ∨ c = 110 ∨ c = 78 ∨ c = 116 ∨ c = 100 ∨ c = 111 ∨ c = 107 ∨ c = 118 ∨ c = 99 ∨ c = 104 ∨ c = 115 ∨ c = 103
instance (c : Nat) : Decidable (cLetter c) := by unfold cLetter; infer_instance
theorem lettersC_are : ∀ s ∈ lettersC, ∀ c ∈ s, cLetter c.toNat := by decide
theorem cFields_letter (p : Int) {k : Nat} (hk : k < (cFields p).length) : cLetter (cFields p)[k].toNat := by
  have hm : (cFields p)[k] ∈ cFields p := List.getElem_mem hk
  generalize (cFields p)[k] = c at *
  unfold cFields at hm
  split at hm
  · simp at hm
  · rcases Nat.lt_or_ge p.toNat lettersC.length with h | h
    · have he : lettersC.getD p.toNat [] = lettersC[p.toNat] := by simp [List.getD, List.getElem?_eq_getElem h]
      rw [he] at hm
      exact lettersC_are _ (List.getElem_mem h) _ hm
    · simp [List.getD, List.getElem?_eq_none h] at hm
theorem may_any (b : Nat) (x : Call) (c : Nat) (hl : cLetter c) (w : World) (hB : Blk w b 89 x.vals) : Calls Try.prog 71 #[.pointer (some ⟨b, 0, none⟩), .int .i32 c] w fun e w' => e = .returned (.bool (cMay x c)) ∧ Below w.heap.size w w' := by
  rcases hl with rfl | rfl | rfl | rfl | rfl | rfl | rfl | rfl | rfl | rfl | rfl | rfl | rfl
  · exact may_f b x w hB
  · exact may_F2 b x w hB
  · exact may_n b x w hB
  · exact may_N2 b x w hB
  · exact may_t b x w hB
  · exact may_d b x w hB
  · exact may_o b x w hB
  · exact may_k b x w hB
  · exact may_v b x w hB
  · exact may_c b x w hB
  · exact may_h b x w hB
  · exact may_s b x w hB
  · exact may_g b x w hB
theorem copied_any (g b : Nat) (z x : Call) (c : Nat) (hl : cLetter c) (w : World) (hA : Blk w g 89 z.vals) (hB : Blk w b 89 x.vals) : Calls Try.prog 70 #[.pointer (some ⟨g, 0, none⟩), .pointer (some ⟨b, 0, none⟩), .int .i32 c] w fun e w' => e = .returned (.tuple #[]) ∧ Blk w' g 89 (cCopy z x c).vals ∧ Touch (fun k => k = g) w w' := by
  rcases hl with rfl | rfl | rfl | rfl | rfl | rfl | rfl | rfl | rfl | rfl | rfl | rfl | rfl
  · exact copied_f g b z x w hA hB
  · exact copied_f2 g b z x w hA hB
  · exact copied_n g b z x w hA hB
  · exact copied_n2 g b z x w hA hB
  · exact copied_t g b z x w hA hB
  · exact copied_d g b z x w hA hB
  · exact copied_o g b z x w hA hB
  · exact copied_k g b z x w hA hB
  · exact copied_v g b z x w hA hB
  · exact copied_c g b z x w hA hB
  · exact copied_h g b z x w hA hB
  · exact copied_s g b z x w hA hB
  · exact copied_g g b z x w hA hB
theorem Blk.ne_itr {w : World} {g b pos : Nat} {T : TypeId} {cs : List Value} {l : List UInt8} (h : Blk w g T cs) (hI : Itr w b l pos) : g ≠ b := by
  intro e
  subst e
  unfold Blk at h
  unfold Itr at hI
  rw [h] at hI
  cases hI

/-- the first k letters' fields are copied -/
def cTaken (x : Call) (l : List UInt8) (z : Call) (k : Nat) : Call := (l.take k).foldl (fun z c => cCopy z x c.toNat) z
theorem cTaken_succ (x : Call) (l : List UInt8) (z : Call) (k : Nat) (hk : k < l.length) : cTaken x l z (k + 1) = cCopy (cTaken x l z k) x l[k].toNat := by
  unfold cTaken
  rw [List.take_add_one, List.getElem?_eq_getElem hk, List.foldl_append]
  rfl
/-- what holds while a call is looked at -/
structure Looked (w0 : World) (g b : Nat) (x : Call) (l : List UInt8) (z : Call) (k : Nat) (W : World) : Prop where
  A : Blk W g 89 (cTaken x l z k).vals
  X : Blk W b 89 x.vals
  B : Below w0.heap.size w0 W

theorem check1_any (w0 : World) (g b : Nat) (hg : w0.heap.size ≤ g) (hb : w0.heap.size ≤ b) (hne : g ≠ b) (x z : Call) (l : List UInt8) (k : Nat) (hk : k < l.length) (hl : cLetter l[k].toNat) (W : World) (hS : Looked w0 g b x l z k W) :
    Calls Try.prog 69 #[.int .i32 l[k].toNat, .pointer (some ⟨g, 0, none⟩), .pointer (some ⟨b, 0, none⟩)] W fun e W' => e = .returned (.bool (cMay x l[k].toNat)) ∧ Looked w0 g b x l z (k + 1) W' ∧ ∀ b l pos, Itr W b l pos → Itr W' b l pos := by
  have HT := Lib.hid (cTaken_succ x l z k hk)
  generalize l[k].toNat = c at *
  go_enter Try.func69, Try.ntmps69
  go_wp2_with fail
  refine (copied_any g b _ x c hl _ hS.A hS.X).mono ?_
  rintro e w1 ⟨rfl, hA, hT⟩
  have hX : Blk w1 b 89 x.vals := hS.X.touch hT (fun e => hne e.symm)
  have HS := Lib.hid hS
  have hnew := hS.A
  clear hS
  go_wp2_with fail
  refine (may_any b x c hl _ hX).mono ?_
  rintro e w2 ⟨rfl, hb2⟩
  have HH : Looked w0 g b x l z (k + 1) w2 := ⟨by rw [HT.out]; exact hA.stays hb2, hX.stays hb2, by
    have h1 : Below w0.heap.size w0 w1 := HS.out.B.trans (hT.below (fun _ _ e => by subst e; exact hg) HS.out.B.size)
    exact below_then h1 hb2⟩
  have HI : ∀ b l pos, Itr W b l pos → Itr w2 b l pos := fun b l pos h => (h.touch hT (fun e => hnew.ne_itr h e.symm)).stays hb2
  go_wp2
  go_ret
  exact ⟨rfl, HH, HI⟩
end Go.Proofs.Ytjepemfllgjhfaa
