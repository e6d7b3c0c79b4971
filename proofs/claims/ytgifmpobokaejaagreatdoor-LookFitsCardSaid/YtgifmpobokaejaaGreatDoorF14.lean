/-
  Layer 5, walks: attributes, or none, are got. Conditions: a reader at a block of its own; texts are machine texts.
-/
import Derived.Test.YtgifmpobokaejaaGreatDoorF13
import Derived.WalkArith
import Derived.Test.YtgifmpobokaejaaGreatDoorF11
import Derived.Test.YtgifmpobokaejaaGreatDoorF12
namespace Go.Proofs.YtgifmpobokaejaaGreatDoor
open Go.RowKit
attribute [local go_sem ↓] Go.wp_at_zero Go.wp_at_succ
attribute [local go_sem] rowAt_ptr rowOf_drew rowOf_drewN rowOf_alloc_past rowOf_new
attribute [local go_sem ↓] ldAttrR ldOpt ldSet ldPost ldWcc

attribute [local go_sem] Attr.at0 Attr.lat0 Attr.at1 Attr.lat1 Attr.at2 Attr.lat2 Attr.at3 Attr.lat3 Attr.at4 Attr.lat4 Attr.at5 Attr.lat5 Attr.at6 Attr.lat6 Attr.at7 Attr.lat7 Attr.at8 Attr.lat8 Attr.at9 Attr.lat9 Attr.sub0_10 Attr.lsub0_10 Attr.len Opt.at0 Opt.lat0 Opt.at1 Opt.lat1 Opt.sub0_2 Opt.lsub0_2 Opt.len Sett.at0 Sett.lat0 Sett.at1 Sett.lat1 Sett.at2 Sett.lat2 Sett.at3 Sett.lat3 Sett.at4 Sett.lat4 Sett.at5 Sett.lat5 Sett.at6 Sett.lat6 Sett.at7 Sett.lat7 Sett.at8 Sett.lat8 Sett.at9 Sett.lat9 Sett.sub0_10 Sett.lsub0_10 Sett.sub0_2 Sett.lsub0_2 Sett.sub2_2 Sett.lsub2_2 Sett.sub4_2 Sett.lsub4_2 Sett.sub6_2 Sett.lsub6_2 Sett.sub8_2 Sett.lsub8_2 Sett.len Post.at0 Post.lat0 Post.at1 Post.lat1 Post.at2 Post.lat2 Post.at3 Post.lat3 Post.at4 Post.lat4 Post.at5 Post.lat5 Post.at6 Post.lat6 Post.at7 Post.lat7 Post.at8 Post.lat8 Post.at9 Post.lat9 Post.at10 Post.lat10 Post.sub0_11 Post.lsub0_11 Post.sub1_10 Post.lsub1_10 Post.len Wcc.at0 Wcc.lat0 Wcc.at1 Wcc.lat1 Wcc.at2 Wcc.lat2 Wcc.at3 Wcc.lat3 Wcc.at4 Wcc.lat4 Wcc.at5 Wcc.lat5 Wcc.at6 Wcc.lat6 Wcc.at7 Wcc.lat7 Wcc.at8 Wcc.lat8 Wcc.at9 Wcc.lat9 Wcc.at10 Wcc.lat10 Wcc.at11 Wcc.lat11 Wcc.at12 Wcc.lat12 Wcc.sub0_13 Wcc.lsub0_13 Wcc.sub0_2 Wcc.lsub0_2 Wcc.sub2_11 Wcc.lsub2_11 Wcc.sub3_10 Wcc.lsub3_10 Wcc.len optV

theorem wf_nat {n : Nat} (h : n < 9223372036854775808) : (Lit.int .i64 (n : Int)).wf = true := by
  exact Go.WalkArith.wf_i64 (by omega)
theorem rOne_lt {b : Bool} {r : Rs} (h : r.s.length ≤ 9223372036854775807) : (rOne b r).1 < 9223372036854775808 := by
  cases b
  · have : (rU32 r).1 < 4294967296 := (rNum_lt (k := 4) h).1
    show (rU32 r).1 < _
    omega
  · show (rU64 r).1 < _
    unfold rU64
    split
    · simp only; omega
    · omega
theorem rMany_lt (l : List Bool) (r : Rs) (h : r.s.length ≤ 9223372036854775807) : ∀ n ∈ (rMany l r).1, n < 9223372036854775808 := by
  induction l generalizing r with
  | nil => simp [rMany]
  | cons b l ih =>
    intro n hn
    simp only [rMany, List.mem_cons] at hn
    rcases hn with rfl | hn
    · exact rOne_lt h
    · exact ih _ (Nat.le_trans (rOne_len h) h) n hn
theorem getD_lt {l : List Nat} (h : ∀ n ∈ l, n < 9223372036854775808) (i : Nat) : l.getD i 0 < 9223372036854775808 := by
  rw [List.getD_eq_getElem?_getD]
  cases hi : l[i]? with
  | none => simp
  | some n => exact h n (List.mem_of_getElem? hi)
theorem rAttr_good {r : Rs} (h : r.s.length ≤ 9223372036854775807) : (rAttr r).1.good := by
  have hl := getD_lt (rMany_lt attrW r h)
  exact ⟨wf_nat (hl 0), wf_nat (hl 1), wf_nat (hl 2), wf_nat (hl 3), wf_nat (hl 4), wf_nat (hl 5), wf_nat (hl 6), wf_nat (hl 7), wf_nat (hl 8), wf_nat (hl 9)⟩
theorem attrZ_good : attrZ.good := ⟨rfl, rfl, rfl, rfl, rfl, rfl, rfl, rfl, rfl, rfl⟩
theorem rPost_good {r : Rs} (h : r.s.length ≤ 9223372036854775807) : (rPost r).1.good := by
  have := rBool_len h
  unfold rPost
  split
  · exact rAttr_good (r := (rBool r).2) (by omega)
  · exact attrZ_good
def optOf (o : Bool × Nat) : Opt := ⟨o.1, o.2⟩
theorem rOpt_good {r : Rs} (h : r.s.length ≤ 9223372036854775807) : (optOf (rOpt r).1).good := by
  have h1 := rBool_len h
  have h2 := rOne_lt (b := true) (r := (rBool r).2) (by omega)
  unfold rOpt
  split
  · split
    · exact wf_nat (n := 0) (by omega)
    · exact wf_nat h2
  · exact wf_nat (n := 0) (by omega)
def rWcc (r : Rs) : Wcc × Rs := (⟨optOf (rOpt r).1, (rPost (rOpt r).2).1⟩, (rPost (rOpt r).2).2)
theorem rWcc_good {r : Rs} (h : r.s.length ≤ 9223372036854775807) : (rWcc r).1.good := ⟨rOpt_good h, rPost_good (Nat.le_trans (rOpt_len h) h)⟩

end Go.Proofs.YtgifmpobokaejaaGreatDoor

/-
  Layer 1, walks: a thing of a kind is taken, by the program's reader and by the document's (written by wip/tools/gentake.py). Conditions: sizes.
-/
namespace Go.Proofs.YtgifmpobokaejaaGreatDoor
open Go.RowKit
attribute [local go_sem ↓] Go.wp_at_zero Go.wp_at_succ
attribute [local go_sem] rowAt_ptr rowOf_drew rowOf_drewN rowOf_alloc_past rowOf_new
theorem Thing.tlen (x : Thing) : x.vals.length = 4 := rfl
theorem Thing.tlat0 (x : Thing) : x.vals[0]? = some (.int .i64 x.kind) := rfl
theorem Thing.tlat1 (x : Thing) : x.vals[1]? = some (.int .i64 x.n) := rfl
theorem Thing.tlat2 (x : Thing) : x.vals[2]? = some (.bool x.is) := rfl
theorem Thing.tlat3 (x : Thing) : x.vals[3]? = some (.string (bs x.s)) := rfl
/-- a thing of a kind is taken -/
def tTake (k n : Int) (r : Rs) : Thing × Rs :=
  if k = 1 then (⟨k, (rU32 r).1, false, []⟩, (rU32 r).2)
  else if k = 2 then (⟨k, (rU64 r).1, false, []⟩, (rU64 r).2)
  else if k = 3 then (⟨k, 0, (rBool r).1, []⟩, (rBool r).2)
  else if k = 4 then (⟨k, 0, false, (rFixed n r).1⟩, (rFixed n r).2)
  else if k = 5 then (⟨k, 0, false, (rOpaque n r).1⟩, (rOpaque n r).2)
  else if k = 6 then (⟨k, (rOpt r).1.2, (rOpt r).1.1, []⟩, (rOpt r).2)
  else (⟨k, 0, false, []⟩, r)
def thing0 : Thing := ⟨0, 0, false, []⟩
theorem optV_lat0 (o : Bool × Nat) : (optV o)[0]? = some (.bool o.1) := rfl
theorem optV_lat1 (o : Bool × Nat) : (optV o)[1]? = some (.int .i64 o.2) := rfl
attribute [local go_sem] optV_lat0 optV_lat1 Thing.tlat0 Thing.tlat1 Thing.tlat2 Thing.tlat3

end Go.Proofs.YtgifmpobokaejaaGreatDoor
