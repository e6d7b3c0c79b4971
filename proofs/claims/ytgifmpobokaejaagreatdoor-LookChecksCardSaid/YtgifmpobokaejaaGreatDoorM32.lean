/-
  Layer 22, walks: numbers that are told. No condition.
-/
import Derived.Test.YtgifmpobokaejaaGreatDoorM29
import Derived.Test.YtgifmpobokaejaaGreatDoorM31
import Derived.Test.YtgifmpobokaejaaGreatDoorM12
import Derived.Test.YtgifmpobokaejaaGreatDoorM20
namespace Go.Proofs.YtgifmpobokaejaaGreatDoor
open Go.RowKit
attribute [local go_sem ↓] Go.wp_at_zero Go.wp_at_succ
attribute [local go_sem] rowAt_ptr rowOf_drew rowOf_drewN rowOf_alloc_past rowOf_new
attribute [local go_sem ↓] ldAsk22 ldNode22 ldCred6 ldAttrR ldTree22 ldCall

/-- the rows of results lie in blocks of the call's own -/
def FreshR (w : World) (z : Reply) : Prop := ∀ p, (z.ea = some p ∨ z.ua = some p) → w.heap.size ≤ p.block
/-- results, and their rows -/
def AskP (d : RepD) (w : World) (e : Ending) (w' : World) : Prop :=
  ∃ z : Reply, e = .returned (.agg z.vals.toArray) ∧ z.bare = d.f ∧ (z.en = d.es.length ∧ At w' 15 z.ea (d.es.map Entry.vals)) ∧ (z.un = d.us.length ∧ At w' 1 z.ua (d.us.map int1)) ∧ Below w.heap.size w w' ∧ FreshR w z

set_option maxRecDepth 20000 in
set_option maxHeartbeats 1600000 in
theorem ask_fsinfo_any (t : Tr) (u : Cred) (c : Call) (n : Nd) (w : World) : Calls Tryz.prog 78 #[.agg (askV t u c n).toArray] w (AskP ⟨fldsZ, [], [256, 256, 1024, 1024]⟩ w) := by
  obtain ⟨bA, bR, hB, hs⟩ := chain2_blks w (askV t u c n) replyZ.vals 76 48
  obtain ⟨w1, hw1⟩ : ∃ V, V = (w.alloc (.cells (askV t u c n).toArray 76)).alloc (.cells replyZ.vals.toArray 48) := ⟨_, rfl⟩
  rw [← hw1] at bA bR hB hs
  have hsz := hB.size
  have hx := (Below.refl w1.heap.size w1).alloc (Nat.le_refl _) (.cells (#[.int .i64 256, .int .i64 256, .int .i64 1024, .int .i64 1024] : Array Value) 3)
  have hAt : At (w1.alloc (.cells (#[.int .i64 256, .int .i64 256, .int .i64 1024, .int .i64 1024] : Array Value) 3)) 1 (some ⟨w1.heap.size, 0, none⟩) (([256, 256, 1024, 1024] : List Int).map int1) := At.fresh w1 3 1 w1.heap.size (([256, 256, 1024, 1024] : List Int).map int1) (by intro r hr; simp only [List.map_cons, List.map_nil, List.mem_cons, List.not_mem_nil, or_false] at hr; rcases hr with rfl | rfl | rfl | rfl <;> rfl) rfl
  obtain ⟨w2, hw2⟩ : ∃ V, V = w1.alloc (.cells (#[.int .i64 256, .int .i64 256, .int .i64 1024, .int .i64 1024] : Array Value) 3) := ⟨_, rfl⟩
  rw [← hw2] at hx hAt
  replace bR := bR.stays hx
  replace hB := below_then hB hx
  obtain ⟨z, hz⟩ : ∃ z : Reply, z = { replyZ with ua := some ⟨w1.heap.size, 0, none⟩, un := 4, uc := 4 } := ⟨_, rfl⟩
  have HR := Lib.hid (retReply22 (z := z) bR hB)
  have HZ := Lib.hid hz
  have HFR := Lib.hid (show FreshR w z from fun p h => by
    rw [hz] at h
    rcases h with h | h
    · cases h
    · injection h with h
      subst h
      exact hsz)
  have HW1 := Lib.hid hw1
  have HW2 := Lib.hid hw2
  have HAt := Lib.hid (hAt.touch (F := fun k => k = w.heap.size + 1) (Touch.setCells (F := fun k => k = w.heap.size + 1) (g := w.heap.size + 1) (.inl rfl) z.vals 0 w2 (Touch.refl _ _)) (fun b off h hf => by injection h with h; injection h with h1 _; omega))
  clear hw1 hw2 bA hx hAt hz hs hsz
  go_enter Tryz.func78, Tryz.ntmps78
  go_upto_region 1 with fail
  change Code.wp _ _ _ _ ((w.alloc (.cells (askV t u c n).toArray 76)).alloc (.cells replyZ.vals.toArray 48))
  rw [← HW1.out]
  rw [HW2.out] at bR
  go_wp2_with (first | (refine wpList_store_whole (by rfl) 48 _ _ (by rfl) (w.heap.size + 1) z.vals _ bR (by rfl) (by rfl) (by rw [HZ.out]; rfl) (by kernel_rfl) (Reply.one _) ?_; rw [← HW2.out]) | fail)
  refine ret_cells (w.heap.size + 1) 0 z.vals Tryz.results78 Tryz.underlying48 rfl (by kernel_rfl) rfl HR.out.1.range rfl ?_
  refine ⟨z, rfl, by rw [HZ.out]; rfl, ⟨by rw [HZ.out]; rfl, At.nil⟩, ⟨by rw [HZ.out]; rfl, ?_⟩, HR.out.2, HFR.out⟩
  have := HAt.out
  rw [HZ.out] at this ⊢
  exact this

set_option maxRecDepth 20000 in
set_option maxHeartbeats 1600000 in
theorem ask_pathconf_any (t : Tr) (u : Cred) (c : Call) (n : Nd) (w : World) : Calls Tryz.prog 79 #[.agg (askV t u c n).toArray] w (AskP ⟨fldsZ, [], [8, 24, 48]⟩ w) := by
  obtain ⟨bA, bR, hB, hs⟩ := chain2_blks w (askV t u c n) replyZ.vals 76 48
  obtain ⟨w1, hw1⟩ : ∃ V, V = (w.alloc (.cells (askV t u c n).toArray 76)).alloc (.cells replyZ.vals.toArray 48) := ⟨_, rfl⟩
  rw [← hw1] at bA bR hB hs
  have hsz := hB.size
  have hx := (Below.refl w1.heap.size w1).alloc (Nat.le_refl _) (.cells (#[.int .i64 8, .int .i64 24, .int .i64 48] : Array Value) 3)
  have hAt : At (w1.alloc (.cells (#[.int .i64 8, .int .i64 24, .int .i64 48] : Array Value) 3)) 1 (some ⟨w1.heap.size, 0, none⟩) (([8, 24, 48] : List Int).map int1) := At.fresh w1 3 1 w1.heap.size (([8, 24, 48] : List Int).map int1) (by intro r hr; simp only [List.map_cons, List.map_nil, List.mem_cons, List.not_mem_nil, or_false] at hr; rcases hr with rfl | rfl | rfl <;> rfl) rfl
  obtain ⟨w2, hw2⟩ : ∃ V, V = w1.alloc (.cells (#[.int .i64 8, .int .i64 24, .int .i64 48] : Array Value) 3) := ⟨_, rfl⟩
  rw [← hw2] at hx hAt
  replace bR := bR.stays hx
  replace hB := below_then hB hx
  obtain ⟨z, hz⟩ : ∃ z : Reply, z = { replyZ with ua := some ⟨w1.heap.size, 0, none⟩, un := 3, uc := 3 } := ⟨_, rfl⟩
  have HR := Lib.hid (retReply22 (z := z) bR hB)
  have HZ := Lib.hid hz
  have HFR := Lib.hid (show FreshR w z from fun p h => by
    rw [hz] at h
    rcases h with h | h
    · cases h
    · injection h with h
      subst h
      exact hsz)
  have HW1 := Lib.hid hw1
  have HW2 := Lib.hid hw2
  have HAt := Lib.hid (hAt.touch (F := fun k => k = w.heap.size + 1) (Touch.setCells (F := fun k => k = w.heap.size + 1) (g := w.heap.size + 1) (.inl rfl) z.vals 0 w2 (Touch.refl _ _)) (fun b off h hf => by injection h with h; injection h with h1 _; omega))
  clear hw1 hw2 bA hx hAt hz hs hsz
  go_enter Tryz.func79, Tryz.ntmps79
  go_upto_region 1 with fail
  change Code.wp _ _ _ _ ((w.alloc (.cells (askV t u c n).toArray 76)).alloc (.cells replyZ.vals.toArray 48))
  rw [← HW1.out]
  rw [HW2.out] at bR
  go_wp2_with (first | (refine wpList_store_whole (by rfl) 48 _ _ (by rfl) (w.heap.size + 1) z.vals _ bR (by rfl) (by rfl) (by rw [HZ.out]; rfl) (by kernel_rfl) (Reply.one _) ?_; rw [← HW2.out]) | fail)
  refine ret_cells (w.heap.size + 1) 0 z.vals Tryz.results79 Tryz.underlying48 rfl (by kernel_rfl) rfl HR.out.1.range rfl ?_
  refine ⟨z, rfl, by rw [HZ.out]; rfl, ⟨by rw [HZ.out]; rfl, At.nil⟩, ⟨by rw [HZ.out]; rfl, ?_⟩, HR.out.2, HFR.out⟩
  have := HAt.out
  rw [HZ.out] at this ⊢
  exact this

section
open Go.RowKit
attribute [local go_sem ↓] Go.wp_at_zero Go.wp_at_succ ldTree

attribute [local go_sem] rowAt_ptr rowOf_drew rowOf_drewN rowOf_alloc_at rowOf_alloc_past Tr.len

set_option maxRecDepth 20000 in
set_option maxHeartbeats 1600000 in
theorem numsF_any (t : Tr) (uid : Int) (w : World) (hs : small t.ns) (ho : t.lim.ok = true) (hA : At w 15 t.na (t.ns.map Nd.vals)) :
    Calls Tryz.prog 109 #[t.val, .int .i64 uid] w (fun e w2 => ∃ A c, e = .returned (.slice A (nums t uid).length c) ∧ At w2 1 A (ints (nums t uid)) ∧ Below w.heap.size w w2 ∧ ∀ p, A = some p → w.heap.size ≤ p.block) := by
  have hl := hs.1
  have hlb := Lim.bounds ho
  have hcr := range_new w t.vals 26
  have hrow := rowOf_of hcr (Tr.len t) (by omega)
  have c0 := hcr 0 _ rfl
  have c2 := hcr 2 _ rfl
  have c5 := hcr 5 _ rfl
  have hA1 := hA.alloc (.cells t.vals.toArray 26)
  have hB1 : Below w.heap.size w (w.alloc (.cells t.vals.toArray 26)) := (Below.refl _ _).alloc (Nat.le_refl _) _
  have hz1 : w.heap.size < (w.alloc (.cells t.vals.toArray 26)).heap.size := by simp
  clear hcr
  have HO := Lib.hid ho
  clear ho
  have HS := Lib.hid hs
  clear hs
  unfold Tr.val
  by_cases hm : (t.ns.length : Int) < t.lim.nodes
  all_goals
    go_enter Tryz.func109, Tryz.ntmps109
    go_wp2_with fail
    generalize w.alloc (.cells t.vals.toArray 26) = w1 at *
    go_region_held3 (fun W => Stb w1 W) (first | exact Stb.start | assumption | (exact Stb.alloc (by assumption) _) | (exact Stb.call (by assumption) (by assumption))) (first | (go_at_call 131; refine (free_any t _ HS.out HO.out (hA1.stb (by assumption))).mono ?_; rintro e w2 ⟨rfl, hb⟩) | (go_at_call 132; refine (left_any t uid _ HS.out HO.out (hA1.stb (by assumption))).mono ?_; rintro e w3 ⟨rfl, hb⟩))
    go_wp2
    go_ret
    refine ⟨_, 6, rfl, ints_cast ?_ (ints_new [_, _, _, _, _, _] _ _), hB1.trans ((by assumption : Stb w1 _).below.mono hB1.size), fun p h => ?_⟩
    rotate_left
    · have hst := (by assumption : Stb w1 _).below.size
      injection h with h
      subst h
      simp at hst ⊢
      omega
    simp only [nums]
    repeat' (first | apply And.intro | trivial | rfl | omega)

end

set_option maxRecDepth 20000 in
set_option maxHeartbeats 1600000 in
theorem ask_fsstat_any (t : Tr) (u : Cred) (c : Call) (n : Nd) (w : World) (hsm : small t.ns) (ho : t.lim.ok = true) (hA : At w 15 t.na (t.ns.map Nd.vals)) : Calls Tryz.prog 77 #[.agg (askV t u c n).toArray] w (AskP ⟨fldsZ, [], nums t u.uid⟩ w) := by
  obtain ⟨bA, bR, hB, hs⟩ := chain2_blks w (askV t u c n) replyZ.vals 76 48
  obtain ⟨w1, hw1⟩ : ∃ V, V = (w.alloc (.cells (askV t u c n).toArray 76)).alloc (.cells replyZ.vals.toArray 48) := ⟨_, rfl⟩
  rw [← hw1] at bA bR hB hs
  have hsz := hB.size
  have r6 : rowOf w1 w.heap.size 0 6 = some t.vals.toArray := bA.row 0 6 (by rw [askV_len]; omega)
  have c8 : w1.cell? ⟨w.heap.size, 8, none⟩ = some (.int .i64 u.uid) := bA.cell 8
  have HW1 := Lib.hid hw1
  have K := Lib.hid (numsF_any t u.uid w1 hsm ho (hA.below hB))
  have hlR := bR.lt
  unfold Tr.val at K
  generalize nums t u.uid = l at *
  clear hw1 bA hs hA hsm ho
  go_enter Tryz.func77, Tryz.ntmps77
  go_upto_region 1 with fail
  change Code.wp _ _ _ _ ((w.alloc (.cells (askV t u c n).toArray 76)).alloc (.cells replyZ.vals.toArray 48))
  rw [← HW1.out]
  go_wp2_with fail
  refine K.out.mono ?_
  rintro e w2 ⟨A, cp, rfl, hAt, hb, hF⟩
  replace bR := bR.stays hb
  replace hB := below_then hB hb
  obtain ⟨z, hz⟩ : ∃ z : Reply, z = { replyZ with ua := A, un := l.length, uc := cp } := ⟨_, rfl⟩
  have HR := Lib.hid (retReply22 (z := z) bR hB)
  have HZ := Lib.hid hz
  have HFR := Lib.hid (show FreshR w z from fun p h => by
    rw [hz] at h
    rcases h with h | h
    · cases h
    · exact Nat.le_trans hsz (hF p h))
  have HAt : At w2 1 A (l.map int1) → At (w2.setCells (w.heap.size + 1) 0 z.vals) 1 A (l.map int1) := fun h => h.touch (F := fun k => k = w.heap.size + 1) (Touch.setCells (F := fun k => k = w.heap.size + 1) (g := w.heap.size + 1) (.inl rfl) z.vals 0 w2 (Touch.refl _ _)) (fun b off h hf => by have := hF _ h; simp only at this hf; omega)
  have HAt := Lib.hid (HAt hAt)
  clear hb hz hAt hF hsz
  go_wp2_with (first | (refine wpList_store_whole (by rfl) 48 _ _ (by rfl) (w.heap.size + 1) z.vals _ bR (by rfl) (by rfl) (by rw [HZ.out]; rfl) (by kernel_rfl) (Reply.one _) ?_) | fail)
  refine ret_cells (w.heap.size + 1) 0 z.vals Tryz.results77 Tryz.underlying48 rfl (by kernel_rfl) rfl HR.out.1.range rfl ?_
  refine ⟨z, rfl, by rw [HZ.out]; rfl, ⟨by rw [HZ.out]; rfl, At.nil⟩, ⟨by rw [HZ.out], ?_⟩, HR.out.2, HFR.out⟩
  have := HAt.out
  rw [HZ.out] at this ⊢
  exact this
end Go.Proofs.YtgifmpobokaejaaGreatDoor

/-
  Layer 22, plain: what a directory's list tells. No condition.
-/
namespace Go.Proofs.YtgifmpobokaejaaGreatDoor
open Go.RowKit

/-- an entry, with what is known of its node -/
def fillE (ns : List Nd) (x : Entry) : Entry := if placeOf ns x.gen < 0 then x else { x with attr := postN (nodeAt ns (placeOf ns x.gen)), fh := genText x.gen }
theorem fillE_no {ns : List Nd} {x : Entry} (h : placeOf ns x.gen < 0) : fillE ns x = x := if_pos h
theorem fillE_yes {ns : List Nd} {x : Entry} (h : ¬ placeOf ns x.gen < 0) : fillE ns x = { x with attr := postN (nodeAt ns (placeOf ns x.gen)), fh := genText x.gen } := if_neg h
theorem fillE_gen (ns : List Nd) (x : Entry) : (fillE ns x).gen = x.gen := by
  unfold fillE
  split <;> rfl
/-- the page after i rounds of the loop -/
def fillN (ns : List Nd) (i : Nat) (l : List Entry) : List Entry := (l.take i).map (fillE ns) ++ l.drop i
theorem fillN_zero (ns : List Nd) (l : List Entry) : fillN ns 0 l = l := by simp [fillN]
theorem fillN_all (ns : List Nd) (l : List Entry) : fillN ns l.length l = l.map (fillE ns) := by simp [fillN]
theorem fillN_len (ns : List Nd) (i : Nat) (l : List Entry) : (fillN ns i l).length = l.length := by
  simp only [fillN, List.length_append, List.length_map, List.length_take, List.length_drop]
  omega
theorem fillN_at (ns : List Nd) {i : Nat} {l : List Entry} (h : i < l.length) : (fillN ns i l)[i]? = some l[i] := by
  unfold fillN
  rw [List.getElem?_append_right (by simp; omega)]
  have e : i - ((l.take i).map (fillE ns)).length = 0 := by simp; omega
  rw [e, List.getElem?_drop, Nat.add_zero, List.getElem?_eq_getElem h]
theorem fillN_next (ns : List Nd) {i : Nat} {l : List Entry} (h : i < l.length) : fillN ns (i + 1) l = (fillN ns i l).set i (fillE ns l[i]) := by
  apply List.ext_getElem?
  intro k
  have hk : (fillN ns i l).length = l.length := fillN_len ns i l
  unfold fillN at hk ⊢
  simp only [List.getElem?_set, List.getElem?_append, List.length_map, List.length_take, List.length_append, List.length_drop, List.getElem?_map, List.getElem?_take, List.getElem?_drop]
  by_cases h2 : i = k
  · subst h2
    have hm : i < min (i + 1) l.length := by omega
    have hn : i < i + 1 := by omega
    have hq : i < min i l.length + (l.length - i) := by omega
    simp only [hm, hn, hq, if_true, List.getElem?_eq_getElem h, Option.map_some]
  · by_cases h1 : k < i
    · have hm : k < min (i + 1) l.length := by omega
      have hn : k < i + 1 := by omega
      have hq : k < min i l.length := by omega
      simp only [hm, hn, hq, h1, h2, if_true, if_false]
    · have hm : ¬ k < min (i + 1) l.length := by omega
      have hq : ¬ k < min i l.length := by omega
      simp only [hm, hq, h2, if_false]
      congr 1
      omega
/-- the same, where nothing is filled in if it isn't asked -/
def fillP (plus : Bool) (ns : List Nd) (i : Nat) (l : List Entry) : List Entry := if plus then fillN ns i l else l
theorem fillP_zero (plus : Bool) (ns : List Nd) (l : List Entry) : fillP plus ns 0 l = l := by
  unfold fillP
  split
  · exact fillN_zero ns l
  · rfl
theorem fillP_all (plus : Bool) (ns : List Nd) (l : List Entry) : fillP plus ns l.length l = if plus then l.map (fillE ns) else l := by
  unfold fillP
  split
  · exact fillN_all ns l
  · rfl
theorem fillP_len (plus : Bool) (ns : List Nd) (i : Nat) (l : List Entry) : (fillP plus ns i l).length = l.length := by
  unfold fillP
  split
  · exact fillN_len ns i l
  · rfl
theorem fillP_parts (plus : Bool) (ns : List Nd) {i : Nat} {l : List Entry} (h : i < l.length) : ∃ pre post, pre.length = i ∧ fillP plus ns i l = pre ++ l[i] :: post ∧ (plus = true → fillP plus ns (i + 1) l = pre ++ fillE ns l[i] :: post) := by
  have hl := fillP_len plus ns i l
  have hg : (fillP plus ns i l)[i]? = some l[i] := by
    unfold fillP
    split
    · exact fillN_at ns h
    · exact List.getElem?_eq_getElem h
  have hi : i < (fillP plus ns i l).length := by omega
  have hg2 : (fillP plus ns i l)[i] = l[i] := by
    rw [List.getElem?_eq_getElem hi] at hg
    exact Option.some.inj hg
  refine ⟨(fillP plus ns i l).take i, (fillP plus ns i l).drop (i + 1), by rw [List.length_take]; omega, ?_, fun hp => ?_⟩
  · conv => lhs; rw [← List.take_append_drop i (fillP plus ns i l), ← List.getElem_cons_drop hi, hg2]
  · subst hp
    have e1 : fillP true ns (i + 1) l = (fillP true ns i l).set i (fillE ns l[i]) := fillN_next ns h
    rw [e1, List.set_eq_take_append_cons_drop, if_pos hi]
theorem fillP_no {plus : Bool} {ns : List Nd} {i : Nat} {l : List Entry} (h : i < l.length) (hn : plus = false ∨ placeOf ns l[i].gen < 0) : fillP plus ns (i + 1) l = fillP plus ns i l := by
  cases plus with
  | false => rfl
  | true =>
    rcases hn with hn | hn
    · cases hn
    · have e1 : fillP true ns (i + 1) l = (fillP true ns i l).set i (fillE ns l[i]) := fillN_next ns h
      have e2 : (fillP true ns i l)[i]? = some l[i] := fillN_at ns h
      rw [e1, fillE_no hn]
      apply List.ext_getElem?
      intro k
      rw [List.getElem?_set]
      split
      · next hk =>
        subst hk
        rw [if_pos (by rw [fillP_len]; exact h), e2]
      · rfl

def statD (s : Int) : RepD := ⟨(statR s).bare, [], []⟩
/-- what a directory's list tells -/
def listR (ns : List Nd) (u : Cred) (c : Call) (n : Nd) (es : List Entry) (plus : Bool) : RepD :=
  if n.attr.type ≠ 2 then statD 20
  else if mayB (bitsP n.attr u.uid u.gid) 4 = false then statD 13
  else if c.cookie ≠ 0 ∧ c.verf ≠ n.attr.gen then statD 10003
  else if (pageF es c.cookie (min c.count 1024) (if plus then 96 else 0)).2.2 ≠ 0 then statD (pageF es c.cookie (min c.count 1024) (if plus then 96 else 0)).2.2
  else ⟨{ fldsZ with verf := n.attr.gen, eof := (pageF es c.cookie (min c.count 1024) (if plus then 96 else 0)).2.1 }, if plus then (pageF es c.cookie (min c.count 1024) (if plus then 96 else 0)).1.map (fillE ns) else (pageF es c.cookie (min c.count 1024) (if plus then 96 else 0)).1, []⟩
end Go.Proofs.YtgifmpobokaejaaGreatDoor


/-
  Layer 20, walks: the document's Check of entries, exact (written by wip/tools/gencheck20x.py). Conditions: machine lists.
-/
namespace Go.Proofs.YtgifmpobokaejaaGreatDoor
open Go.RowKit
attribute [local go_sem ↓] Go.wp_at_zero Go.wp_at_succ
attribute [local go_sem] rowAt_ptr rowOf_drew rowOf_drewN rowOf_alloc_past rowOf_new
attribute [local go_sem ↓] ldEntry

attribute [local go_sem ↓] ldPostQ

attribute [local go_sem] ldIf_some

attribute [local go_sem] Entry.at0 Entry.lat0 Entry.at1 Entry.lat1 Entry.at2 Entry.lat2 Entry.at3 Entry.lat3 Entry.at4 Entry.lat4 Entry.at5 Entry.lat5 Entry.at6 Entry.lat6 Entry.at7 Entry.lat7 Entry.at8 Entry.lat8 Entry.at9 Entry.lat9 Entry.at10 Entry.lat10 Entry.at11 Entry.lat11 Entry.at12 Entry.lat12 Entry.at13 Entry.lat13 Entry.at14 Entry.lat14 Entry.sub0_15 Entry.lsub0_15 Entry.sub3_11 Entry.lsub3_11 Entry.sub4_10 Entry.lsub4_10 Entry.len rowAt_ptr rowOf_drew rowOf_drewN

attribute [local go_sem ↓] neqPost20 neqPostZ20

attribute [local go_sem] guardPost20

set_option maxRecDepth 20000 in
set_option maxHeartbeats 6400000 in
theorem refCheck20_iff (A : Option Addr) (c : Nat) (l : List Entry) (w : World) (hl : l.length ≤ 70) (hn : ∀ x ∈ l, x.name.length ≤ 300) (hA : At w 15 A (l.map Entry.vals)) :
    Calls Tryz.prog 67 #[.slice A l.length c] w (TellsP (EntsOk l) w) := by
  go_enter Tryz.func67, Tryz.ntmps67
  go_wp2
  go_loopw [3] (fun i wr => ∃ k : Nat, k ≤ l.length ∧ i = .int .i64 k ∧ EntsK l k ∧ Below w.heap.size w wr) (fun i _ => l.length - (intOf i).toNat)
  case atStart => exact ⟨0, Nat.zero_le _, rfl, EntsK.zero _, Below.refl _ _⟩
  case round =>
    obtain ⟨k, hk, rfl, hG, hb⟩ := hrel
    by_cases hlk : k < l.length
    · have hAr := hA.below hb
      obtain ⟨b, off, rfl, hb1, r1, -⟩ := rowCell8 Entry.len (by omega) hAr hlk
      have hZ := Blk.new wr 80 l[k].vals
      have hba : Below wr.heap.size wr (wr.alloc (.cells l[k].vals.toArray 80)) := (Below.refl _ _).alloc (Nat.le_refl _) _
      have hA1 := hAr.below hba
      have hnk := hn l[k] (List.getElem_mem hlk)
      have hkp : k - 1 < l.length := by omega
      have hprev : ∀ (_ : 0 < k), (wr.alloc (.cells l[k].vals.toArray 80)).cell? ⟨b, off + (k - 1) * 15 + 2, none⟩ = some (.int .i64 (l[k - 1]'hkp).cookie) := fun h0 => by
        obtain ⟨b', o', e', -, -, hc'⟩ := rowCell8 Entry.len (by omega) hA1 (k := k - 1) (by omega)
        injection e' with e'
        injection e' with e1 e2 _
        subst e1 e2
        exact hc' 2 (.int .i64 (l[k - 1]'hkp).cookie) rfl
      have HIF := Lib.hid (fun (h : EntsOk l) => (show CondE l[k] (findName l l[k].name) (nameSt l[k].name) k (l[k - 1]'hkp).cookie from h k hlk))
      have HNX := Lib.hid (fun (h : CondE l[k] (findName l l[k].name) (nameSt l[k].name) k (l[k - 1]'hkp).cookie) => (show EntsK l (k + 1) from hG.next hlk h))
      have HB := Lib.hid (below_then hb hba)
      have KF : ∀ n, Calls Tryz.prog 99 #[.slice (some ⟨b, off, none⟩) l.length c, .string (bs l[k].name)] ((wr.alloc (.cells l[k].vals.toArray 80)).drewN n) fun e w' => e = .returned (.int .i64 (findName l l[k].name)) ∧ ∃ m, w' = ((wr.alloc (.cells l[k].vals.toArray 80)).drewN n).drewN m :=
        fun n => quiet20 (refFind20_any _ c l l[k].name _ (by omega) hA1)
      have KN : ∀ W, Calls Tryz.prog 100 #[.string (bs l[k].name)] W fun e w' => e = .returned (.int .i64 (nameSt l[k].name)) ∧ ∃ m, w' = W.drewN m := fun W => quiet20 (refCheck4_any l[k].name W (by omega))
      clear hG hb hA1 hAr hnk
      generalize findName l l[k].name = F at *
      generalize nameSt l[k].name = N at *
      have HLK := Lib.hid hlk
      have hk0 : (0 : Int) ≤ (k : Int) := Int.natCast_nonneg _
      have hk1 : (k : Int) < (l.length : Int) := by omega
      generalize (l[k - 1]'hkp).cookie = pc at *
      generalize l[k] = x at *
      obtain ⟨w1, hw1⟩ : ∃ u, u = wr.alloc (.cells x.vals.toArray 80) := ⟨_, rfl⟩
      have HW1 := Lib.hid hw1
      rw [← hw1] at hZ hprev KF HB
      clear hw1 hba
      go_upto_region 5 with (first | (refine wpList_new_struct (by rfl) (by rfl) 80 (by rfl) _ _ (by rfl) x.vals infoEntry2 (by rfl) (by rfl) (Entry.one _) (by rfl) (by rfl) ?_; rw [← HW1.out]) | fail)
      go_frame
      have f0 : w1.cell? ⟨wr.heap.size, 0, none⟩ = some (.int .i64 x.gen) := hZ.cell 0
      have f1 : w1.cell? ⟨wr.heap.size, 1, none⟩ = some (.string (bs x.name)) := hZ.cell 1
      have f2 : w1.cell? ⟨wr.heap.size, 2, none⟩ = some (.int .i64 x.cookie) := hZ.cell 2
      have f14 : w1.cell? ⟨wr.heap.size, 14, none⟩ = some (.string (bs x.fh)) := hZ.cell 14
      have f3 : rowOf w1 wr.heap.size 3 11 = some x.attr.vals.toArray := hZ.row 3 11 (by simp [Entry.len])
      clear hZ HW1 r1
      by_cases q0 : x.gen < 1
      · have d0 : decide (x.gen < 1) = true := decide_eq_true q0
        have HQ := Lib.hid (show ¬ EntsOk l from fun h => absurd (HIF.out h).1 (by omega))
        clear q0
        clear HIF HNX hprev hkp
        go_quiet (first
          | (go_at_call_of 99 (x.name); refine Calls.quiet_of (KF _))
          | (go_at_call_of 100 (x.name); refine Calls.quiet_of (KN _)))
        all_goals
          go_wp2
          go_ret
          exact TellsP.no HQ.out (bdN HB.out _)
      · have d0 : decide (x.gen < 1) = false := decide_eq_false q0
        by_cases q1 : x.cookie < 1
        · have d1 : decide (x.cookie < 1) = true := decide_eq_true q1
          have HQ := Lib.hid (show ¬ EntsOk l from fun h => absurd (HIF.out h).2.1 (by omega))
          clear q0 q1
          clear HIF HNX hprev hkp
          go_quiet (first
            | (go_at_call_of 99 (x.name); refine Calls.quiet_of (KF _))
            | (go_at_call_of 100 (x.name); refine Calls.quiet_of (KN _)))
          all_goals
            go_wp2
            go_ret
            exact TellsP.no HQ.out (bdN HB.out _)
        · have d1 : decide (x.cookie < 1) = false := decide_eq_false q1
          by_cases q2 : x.fh ≠ []
          · have d2 : (x.fh == []) = false := beq_false_of_ne q2
            have d2b : (x.fh != []) = true := by simpa using q2
            have HQ := Lib.hid (show ¬ EntsOk l from fun h => q2 (HIF.out h).2.2.1)
            clear q0 q1 q2
            clear HIF HNX hprev hkp
            go_quiet (first
              | (go_at_call_of 99 (x.name); refine Calls.quiet_of (KF _))
              | (go_at_call_of 100 (x.name); refine Calls.quiet_of (KN _)))
            all_goals
              go_wp2
              go_ret
              exact TellsP.no HQ.out (bdN HB.out _)
          · have d2 : (x.fh == []) = true := by simpa using q2
            have d2b : (x.fh != []) = false := by simpa using q2
            by_cases q3 : x.attr ≠ postZ8
            · have d3 : decide (x.attr ≠ postZ8) = true := decide_eq_true q3
              have HQ := Lib.hid (show ¬ EntsOk l from fun h => q3 (HIF.out h).2.2.2.1)
              clear q0 q1 q2 q3
              clear HIF HNX hprev hkp
              go_quiet (first
                | (go_at_call_of 99 (x.name); refine Calls.quiet_of (KF _))
                | (go_at_call_of 100 (x.name); refine Calls.quiet_of (KN _)))
              all_goals
                go_wp2
                go_ret
                exact TellsP.no HQ.out (bdN HB.out _)
            · have d3 : decide (x.attr ≠ postZ8) = false := decide_eq_false q3
              by_cases q4 : F ≠ (k : Int)
              · have d4 : (F != (k : Int)) = true := by simpa using q4
                have HQ := Lib.hid (show ¬ EntsOk l from fun h => q4 (HIF.out h).2.2.2.2.1)
                clear q0 q1 q2 q3 q4
                clear HIF HNX hprev hkp
                go_quiet (first
                  | (go_at_call_of 99 (x.name); refine Calls.quiet_of (KF _))
                  | (go_at_call_of 100 (x.name); refine Calls.quiet_of (KN _)))
                all_goals
                  go_wp2
                  go_ret
                  exact TellsP.no HQ.out (bdN HB.out _)
              · have d4 : (F != (k : Int)) = false := by simpa using q4
                by_cases q5 : N ≠ 0
                · have d5 : (N != 0) = true := by simpa using q5
                  have HQ := Lib.hid (show ¬ EntsOk l from fun h => q5 (HIF.out h).2.2.2.2.2.1)
                  clear q0 q1 q2 q3 q4 q5
                  clear HIF HNX hprev hkp
                  go_quiet (first
                    | (go_at_call_of 99 (x.name); refine Calls.quiet_of (KF _))
                    | (go_at_call_of 100 (x.name); refine Calls.quiet_of (KN _)))
                  all_goals
                    go_wp2
                    go_ret
                    exact TellsP.no HQ.out (bdN HB.out _)
                · have d5 : (N != 0) = false := by simpa using q5
                  have hne : N = 0 := by simpa using q5
                  by_cases q6 : 0 < k
                  · have d6 : decide ((0 : Int) < (k : Int)) = true := decide_eq_true (by omega)
                    have hp := hprev q6
                    have hwp : IntKind.i64.wrap ((k : Int) - 1) = ((k - 1 : Nat) : Int) := by rw [IntWalk.i64_in _ (by omega)]; omega
                    have hkq : ((k - 1 : Nat) : Int) < (l.length : Int) := by omega
                    have hkq0 : (0 : Int) ≤ ((k - 1 : Nat) : Int) := Int.natCast_nonneg _
                    by_cases q7 : x.cookie ≤ pc
                    · have d7 : decide (x.cookie ≤ pc) = true := decide_eq_true q7
                      have HQ := Lib.hid (show ¬ EntsOk l from fun h => absurd ((HIF.out h).2.2.2.2.2.2 q6) (by omega))
                      clear q0 q1 q2 q3 q4 q5 q7 HIF HNX hprev
                      go_quiet (first
                        | (go_at_call_of 99 (x.name); refine Calls.quiet_of (KF _))
                        | (go_at_call_of 100 (x.name); refine Calls.quiet_of (KN _)))
                      all_goals
                        go_wp2
                        go_ret
                        exact TellsP.no HQ.out (bdN HB.out _)
                    · have d7 : decide (x.cookie ≤ pc) = false := decide_eq_false q7
                      have HN := Lib.hid (HNX.out ⟨by omega, by omega, Classical.not_not.1 q2, Classical.not_not.1 q3, Classical.not_not.1 q4, hne, fun _ => by omega⟩)
                      clear q0 q1 q2 q3 q4 q5 q7 HIF HNX hprev hne
                      go_quiet (first
                        | (go_at_call_of 99 (x.name); refine Calls.quiet_of (KF _))
                        | (go_at_call_of 100 (x.name); refine Calls.quiet_of (KN _)))
                      all_goals
                        go_wp2
                        go_roundw
                        case rel => exact ⟨k + 1, by have := HLK.out; omega, by go_num, HN.out, bdN HB.out _⟩
                        case measure => have := HLK.out; simp [intOf]; omega
                  · have d6 : decide ((0 : Int) < (k : Int)) = false := decide_eq_false (by omega)
                    have HN := Lib.hid (HNX.out ⟨by omega, by omega, Classical.not_not.1 q2, Classical.not_not.1 q3, Classical.not_not.1 q4, hne, fun h => absurd h q6⟩)
                    clear q0 q1 q2 q3 q4 q5 HIF HNX hprev hne
                    go_quiet (first
                      | (go_at_call_of 99 (x.name); refine Calls.quiet_of (KF _))
                      | (go_at_call_of 100 (x.name); refine Calls.quiet_of (KN _)))
                    all_goals
                      go_wp2
                      go_roundw
                      case rel => exact ⟨k + 1, by have := HLK.out; omega, by go_num, HN.out, bdN HB.out _⟩
                      case measure => have := HLK.out; simp [intOf]; omega
    · obtain rfl : k = l.length := by omega
      have HG := Lib.hid hG.all
      have hk1 : ¬ (l.length : Int) < (l.length : Int) := by omega
      clear hG hA hlk
      go_wp2
      go_ret
      exact TellsP.yes HG.out hb
end Go.Proofs.YtgifmpobokaejaaGreatDoor
