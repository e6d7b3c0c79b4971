/-
  Layer 22, walks: numbers that are told. No condition.
-/
import Derived.Test.YtgifmpobokaejaaGreatDoorM31
import Derived.Test.YtgifmpobokaejaaGreatDoorM34
import Derived.Test.YtgifmpobokaejaaGreatDoorM11
import Derived.Test.YtgifmpobokaejaaGreatDoorM22
namespace Go.Proofs.YtgifmpobokaejaaGreatDoor
open Go.RowKit
attribute [local go_sem ↓] Go.wp_at_zero Go.wp_at_succ
attribute [local go_sem] rowAt_ptr rowOf_drew rowOf_drewN rowOf_alloc_past rowOf_new
attribute [local go_sem ↓] ldAsk22 ldNode22 ldCred6 ldAttrR ldTree22 ldCall

/-- the rows of results lie in blocks of the call's own -/
def FreshR (w : World) (z : Reply) : Prop := ∀ p, (z.ea = some p ∨ z.ua = some p) → w.heap.size ≤ p.block
/-- results, and their rows -/
def AskP (d : RepD) (w : World) (e : Ending) (w' : World) : Prop :=
  ∃ z : Reply, e = .returned (.agg z.vals.toArray) ∧ z.bare = d.f ∧ (z.en = d.es.length ∧ At w' 15 z.ea (d.es.map Entry.vals)) ∧ (z.un = d.us.length ∧ At w' 1 z.ua (d.us.map int1)) ∧ Below w.heap.size w w' ∧ FreshR w z

set_option maxRecDepth 20000 in
set_option maxHeartbeats 1600000 in
theorem ask_fsinfo_any (t : Tr) (u : Cred) (c : Call) (n : Nd) (w : World) : Calls Tryz.prog 78 #[.agg (askV t u c n).toArray] w (AskP ⟨fldsZ, [], [256, 256, 1024, 1024]⟩ w) := by
  obtain ⟨bA, bR, hB, hs⟩ := chain2_blks w (askV t u c n) replyZ.vals 76 48
  obtain ⟨w1, hw1⟩ : ∃ V, V = (w.alloc (.cells (askV t u c n).toArray 76)).alloc (.cells replyZ.vals.toArray 48) := ⟨_, rfl⟩
  rw [← hw1] at bA bR hB hs
  have hsz := hB.size
  have hx := (Below.refl w1.heap.size w1).alloc (Nat.le_refl _) (.cells (#[.int .i64 256, .int .i64 256, .int .i64 1024, .int .i64 1024] : Array Value) 3)
  have hAt : At (w1.alloc (.cells (#[.int .i64 256, .int .i64 256, .int .i64 1024, .int .i64 1024] : Array Value) 3)) 1 (some ⟨w1.heap.size, 0, none⟩) (([256, 256, 1024, 1024] : List Int).map int1) := At.fresh w1 3 1 w1.heap.size (([256, 256, 1024, 1024] : List Int).map int1) (by intro r hr; simp only [List.map_cons, List.map_nil, List.mem_cons, List.not_mem_nil, or_false] at hr; rcases hr with rfl | rfl | rfl | rfl <;> rfl) rfl
  obtain ⟨w2, hw2⟩ : ∃ V, V = w1.alloc (.cells (#[.int .i64 256, .int .i64 256, .int .i64 1024, .int .i64 1024] : Array Value) 3) := ⟨_, rfl⟩
  rw [← hw2] at hx hAt
  replace bR := bR.stays hx
  replace hB := below_then hB hx
  obtain ⟨z, hz⟩ : ∃ z : Reply, z = { replyZ with ua := some ⟨w1.heap.size, 0, none⟩, un := 4, uc := 4 } := ⟨_, rfl⟩
  have HR := Lib.hid (retReply22 (z := z) bR hB)
  have HZ := Lib.hid hz
  have HFR := Lib.hid (show FreshR w z from fun p h => by
    rw [hz] at h
    rcases h with h | h
    · cases h
    · injection h with h
      subst h
      exact hsz)
  have HW1 := Lib.hid hw1
  have HW2 := Lib.hid hw2
  have HAt := Lib.hid (hAt.touch (F := fun k => k = w.heap.size + 1) (Touch.setCells (F := fun k => k = w.heap.size + 1) (g := w.heap.size + 1) (.inl rfl) z.vals 0 w2 (Touch.refl _ _)) (fun b off h hf => by injection h with h; injection h with h1 _; omega))
  clear hw1 hw2 bA hx hAt hz hs hsz
  go_enter Tryz.func78, Tryz.ntmps78
  go_upto_region 1 with fail
  change Code.wp _ _ _ _ ((w.alloc (.cells (askV t u c n).toArray 76)).alloc (.cells replyZ.vals.toArray 48))
  rw [← HW1.out]
  rw [HW2.out] at bR
  go_wp2_with (first | (refine wpList_store_whole (by rfl) 48 _ _ (by rfl) (w.heap.size + 1) z.vals _ bR (by rfl) (by rfl) (by rw [HZ.out]; rfl) (by kernel_rfl) (Reply.one _) ?_; rw [← HW2.out]) | fail)
  refine ret_cells (w.heap.size + 1) 0 z.vals Tryz.results78 Tryz.underlying48 rfl (by kernel_rfl) rfl HR.out.1.range rfl ?_
  refine ⟨z, rfl, by rw [HZ.out]; rfl, ⟨by rw [HZ.out]; rfl, At.nil⟩, ⟨by rw [HZ.out]; rfl, ?_⟩, HR.out.2, HFR.out⟩
  have := HAt.out
  rw [HZ.out] at this ⊢
  exact this

set_option maxRecDepth 20000 in
set_option maxHeartbeats 1600000 in
theorem ask_pathconf_any (t : Tr) (u : Cred) (c : Call) (n : Nd) (w : World) : Calls Tryz.prog 79 #[.agg (askV t u c n).toArray] w (AskP ⟨fldsZ, [], [8, 24, 48]⟩ w) := by
  obtain ⟨bA, bR, hB, hs⟩ := chain2_blks w (askV t u c n) replyZ.vals 76 48
  obtain ⟨w1, hw1⟩ : ∃ V, V = (w.alloc (.cells (askV t u c n).toArray 76)).alloc (.cells replyZ.vals.toArray 48) := ⟨_, rfl⟩
  rw [← hw1] at bA bR hB hs
  have hsz := hB.size
  have hx := (Below.refl w1.heap.size w1).alloc (Nat.le_refl _) (.cells (#[.int .i64 8, .int .i64 24, .int .i64 48] : Array Value) 3)
  have hAt : At (w1.alloc (.cells (#[.int .i64 8, .int .i64 24, .int .i64 48] : Array Value) 3)) 1 (some ⟨w1.heap.size, 0, none⟩) (([8, 24, 48] : List Int).map int1) := At.fresh w1 3 1 w1.heap.size (([8, 24, 48] : List Int).map int1) (by intro r hr; simp only [List.map_cons, List.map_nil, List.mem_cons, List.not_mem_nil, or_false] at hr; rcases hr with rfl | rfl | rfl <;> rfl) rfl
  obtain ⟨w2, hw2⟩ : ∃ V, V = w1.alloc (.cells (#[.int .i64 8, .int .i64 24, .int .i64 48] : Array Value) 3) := ⟨_, rfl⟩
  rw [← hw2] at hx hAt
  replace bR := bR.stays hx
  replace hB := below_then hB hx
  obtain ⟨z, hz⟩ : ∃ z : Reply, z = { replyZ with ua := some ⟨w1.heap.size, 0, none⟩, un := 3, uc := 3 } := ⟨_, rfl⟩
  have HR := Lib.hid (retReply22 (z := z) bR hB)
  have HZ := Lib.hid hz
  have HFR := Lib.hid (show FreshR w z from fun p h => by
    rw [hz] at h
    rcases h with h | h
    · cases h
    · injection h with h
      subst h
      exact hsz)
  have HW1 := Lib.hid hw1
  have HW2 := Lib.hid hw2
  have HAt := Lib.hid (hAt.touch (F := fun k => k = w.heap.size + 1) (Touch.setCells (F := fun k => k = w.heap.size + 1) (g := w.heap.size + 1) (.inl rfl) z.vals 0 w2 (Touch.refl _ _)) (fun b off h hf => by injection h with h; injection h with h1 _; omega))
  clear hw1 hw2 bA hx hAt hz hs hsz
  go_enter Tryz.func79, Tryz.ntmps79
  go_upto_region 1 with fail
  change Code.wp _ _ _ _ ((w.alloc (.cells (askV t u c n).toArray 76)).alloc (.cells replyZ.vals.toArray 48))
  rw [← HW1.out]
  rw [HW2.out] at bR
  go_wp2_with (first | (refine wpList_store_whole (by rfl) 48 _ _ (by rfl) (w.heap.size + 1) z.vals _ bR (by rfl) (by rfl) (by rw [HZ.out]; rfl) (by kernel_rfl) (Reply.one _) ?_; rw [← HW2.out]) | fail)
  refine ret_cells (w.heap.size + 1) 0 z.vals Tryz.results79 Tryz.underlying48 rfl (by kernel_rfl) rfl HR.out.1.range rfl ?_
  refine ⟨z, rfl, by rw [HZ.out]; rfl, ⟨by rw [HZ.out]; rfl, At.nil⟩, ⟨by rw [HZ.out]; rfl, ?_⟩, HR.out.2, HFR.out⟩
  have := HAt.out
  rw [HZ.out] at this ⊢
  exact this

section
open Go.RowKit
attribute [local go_sem ↓] Go.wp_at_zero Go.wp_at_succ ldTree

attribute [local go_sem] rowAt_ptr rowOf_drew rowOf_drewN rowOf_alloc_at rowOf_alloc_past Tr.len

set_option maxRecDepth 20000 in
set_option maxHeartbeats 1600000 in
theorem numsF_any (t : Tr) (uid : Int) (w : World) (hs : small t.ns) (ho : t.lim.ok = true) (hA : At w 15 t.na (t.ns.map Nd.vals)) :
    Calls Tryz.prog 109 #[t.val, .int .i64 uid] w (fun e w2 => ∃ A c, e = .returned (.slice A (nums t uid).length c) ∧ At w2 1 A (ints (nums t uid)) ∧ Below w.heap.size w w2 ∧ ∀ p, A = some p → w.heap.size ≤ p.block) := by
  have hl := hs.1
  have hlb := Lim.bounds ho
  have hcr := range_new w t.vals 26
  have hrow := rowOf_of hcr (Tr.len t) (by omega)
  have c0 := hcr 0 _ rfl
  have c2 := hcr 2 _ rfl
  have c5 := hcr 5 _ rfl
  have hA1 := hA.alloc (.cells t.vals.toArray 26)
  have hB1 : Below w.heap.size w (w.alloc (.cells t.vals.toArray 26)) := (Below.refl _ _).alloc (Nat.le_refl _) _
  have hz1 : w.heap.size < (w.alloc (.cells t.vals.toArray 26)).heap.size := by simp
  clear hcr
  have HO := Lib.hid ho
  clear ho
  have HS := Lib.hid hs
  clear hs
  unfold Tr.val
  by_cases hm : (t.ns.length : Int) < t.lim.nodes
  all_goals
    go_enter Tryz.func109, Tryz.ntmps109
    go_wp2_with fail
    generalize w.alloc (.cells t.vals.toArray 26) = w1 at *
    go_region_held3 (fun W => Stb w1 W) (first | exact Stb.start | assumption | (exact Stb.alloc (by assumption) _) | (exact Stb.call (by assumption) (by assumption))) (first | (go_at_call 131; refine (free_any t _ HS.out HO.out (hA1.stb (by assumption))).mono ?_; rintro e w2 ⟨rfl, hb⟩) | (go_at_call 132; refine (left_any t uid _ HS.out HO.out (hA1.stb (by assumption))).mono ?_; rintro e w3 ⟨rfl, hb⟩))
    go_wp2
    go_ret
    refine ⟨_, 6, rfl, ints_cast ?_ (ints_new [_, _, _, _, _, _] _ _), hB1.trans ((by assumption : Stb w1 _).below.mono hB1.size), fun p h => ?_⟩
    rotate_left
    · have hst := (by assumption : Stb w1 _).below.size
      injection h with h
      subst h
      simp at hst ⊢
      omega
    simp only [nums]
    repeat' (first | apply And.intro | trivial | rfl | omega)

end

set_option maxRecDepth 20000 in
set_option maxHeartbeats 1600000 in
theorem ask_fsstat_any (t : Tr) (u : Cred) (c : Call) (n : Nd) (w : World) (hsm : small t.ns) (ho : t.lim.ok = true) (hA : At w 15 t.na (t.ns.map Nd.vals)) : Calls Tryz.prog 77 #[.agg (askV t u c n).toArray] w (AskP ⟨fldsZ, [], nums t u.uid⟩ w) := by
  obtain ⟨bA, bR, hB, hs⟩ := chain2_blks w (askV t u c n) replyZ.vals 76 48
  obtain ⟨w1, hw1⟩ : ∃ V, V = (w.alloc (.cells (askV t u c n).toArray 76)).alloc (.cells replyZ.vals.toArray 48) := ⟨_, rfl⟩
  rw [← hw1] at bA bR hB hs
  have hsz := hB.size
  have r6 : rowOf w1 w.heap.size 0 6 = some t.vals.toArray := bA.row 0 6 (by rw [askV_len]; omega)
  have c8 : w1.cell? ⟨w.heap.size, 8, none⟩ = some (.int .i64 u.uid) := bA.cell 8
  have HW1 := Lib.hid hw1
  have K := Lib.hid (numsF_any t u.uid w1 hsm ho (hA.below hB))
  have hlR := bR.lt
  unfold Tr.val at K
  generalize nums t u.uid = l at *
  clear hw1 bA hs hA hsm ho
  go_enter Tryz.func77, Tryz.ntmps77
  go_upto_region 1 with fail
  change Code.wp _ _ _ _ ((w.alloc (.cells (askV t u c n).toArray 76)).alloc (.cells replyZ.vals.toArray 48))
  rw [← HW1.out]
  go_wp2_with fail
  refine K.out.mono ?_
  rintro e w2 ⟨A, cp, rfl, hAt, hb, hF⟩
  replace bR := bR.stays hb
  replace hB := below_then hB hb
  obtain ⟨z, hz⟩ : ∃ z : Reply, z = { replyZ with ua := A, un := l.length, uc := cp } := ⟨_, rfl⟩
  have HR := Lib.hid (retReply22 (z := z) bR hB)
  have HZ := Lib.hid hz
  have HFR := Lib.hid (show FreshR w z from fun p h => by
    rw [hz] at h
    rcases h with h | h
    · cases h
    · exact Nat.le_trans hsz (hF p h))
  have HAt : At w2 1 A (l.map int1) → At (w2.setCells (w.heap.size + 1) 0 z.vals) 1 A (l.map int1) := fun h => h.touch (F := fun k => k = w.heap.size + 1) (Touch.setCells (F := fun k => k = w.heap.size + 1) (g := w.heap.size + 1) (.inl rfl) z.vals 0 w2 (Touch.refl _ _)) (fun b off h hf => by have := hF _ h; simp only at this hf; omega)
  have HAt := Lib.hid (HAt hAt)
  clear hb hz hAt hF hsz
  go_wp2_with (first | (refine wpList_store_whole (by rfl) 48 _ _ (by rfl) (w.heap.size + 1) z.vals _ bR (by rfl) (by rfl) (by rw [HZ.out]; rfl) (by kernel_rfl) (Reply.one _) ?_) | fail)
  refine ret_cells (w.heap.size + 1) 0 z.vals Tryz.results77 Tryz.underlying48 rfl (by kernel_rfl) rfl HR.out.1.range rfl ?_
  refine ⟨z, rfl, by rw [HZ.out]; rfl, ⟨by rw [HZ.out]; rfl, At.nil⟩, ⟨by rw [HZ.out], ?_⟩, HR.out.2, HFR.out⟩
  have := HAt.out
  rw [HZ.out] at this ⊢
  exact this
end Go.Proofs.YtgifmpobokaejaaGreatDoor

/-
  Layer 22, plain: what a directory's list tells. No condition.
-/
namespace Go.Proofs.YtgifmpobokaejaaGreatDoor
open Go.RowKit

/-- an entry, with what is known of its node -/
def fillE (ns : List Nd) (x : Entry) : Entry := if placeOf ns x.gen < 0 then x else { x with attr := postN (nodeAt ns (placeOf ns x.gen)), fh := genText x.gen }
theorem fillE_no {ns : List Nd} {x : Entry} (h : placeOf ns x.gen < 0) : fillE ns x = x := if_pos h
theorem fillE_yes {ns : List Nd} {x : Entry} (h : ¬ placeOf ns x.gen < 0) : fillE ns x = { x with attr := postN (nodeAt ns (placeOf ns x.gen)), fh := genText x.gen } := if_neg h
theorem fillE_gen (ns : List Nd) (x : Entry) : (fillE ns x).gen = x.gen := by
  unfold fillE
  split <;> rfl
/-- the page after i rounds of the loop -/
def fillN (ns : List Nd) (i : Nat) (l : List Entry) : List Entry := (l.take i).map (fillE ns) ++ l.drop i
theorem fillN_zero (ns : List Nd) (l : List Entry) : fillN ns 0 l = l := by simp [fillN]
theorem fillN_all (ns : List Nd) (l : List Entry) : fillN ns l.length l = l.map (fillE ns) := by simp [fillN]
theorem fillN_len (ns : List Nd) (i : Nat) (l : List Entry) : (fillN ns i l).length = l.length := by
  simp only [fillN, List.length_append, List.length_map, List.length_take, List.length_drop]
  omega
theorem fillN_at (ns : List Nd) {i : Nat} {l : List Entry} (h : i < l.length) : (fillN ns i l)[i]? = some l[i] := by
  unfold fillN
  rw [List.getElem?_append_right (by simp; omega)]
  have e : i - ((l.take i).map (fillE ns)).length = 0 := by simp; omega
  rw [e, List.getElem?_drop, Nat.add_zero, List.getElem?_eq_getElem h]
theorem fillN_next (ns : List Nd) {i : Nat} {l : List Entry} (h : i < l.length) : fillN ns (i + 1) l = (fillN ns i l).set i (fillE ns l[i]) := by
  apply List.ext_getElem?
  intro k
  have hk : (fillN ns i l).length = l.length := fillN_len ns i l
  unfold fillN at hk ⊢
  simp only [List.getElem?_set, List.getElem?_append, List.length_map, List.length_take, List.length_append, List.length_drop, List.getElem?_map, List.getElem?_take, List.getElem?_drop]
  by_cases h2 : i = k
  · subst h2
    have hm : i < min (i + 1) l.length := by omega
    have hn : i < i + 1 := by omega
    have hq : i < min i l.length + (l.length - i) := by omega
    simp only [hm, hn, hq, if_true, List.getElem?_eq_getElem h, Option.map_some]
  · by_cases h1 : k < i
    · have hm : k < min (i + 1) l.length := by omega
      have hn : k < i + 1 := by omega
      have hq : k < min i l.length := by omega
      simp only [hm, hn, hq, h1, h2, if_true, if_false]
    · have hm : ¬ k < min (i + 1) l.length := by omega
      have hq : ¬ k < min i l.length := by omega
      simp only [hm, hq, h2, if_false]
      congr 1
      omega
/-- the same, where nothing is filled in if it isn't asked -/
def fillP (plus : Bool) (ns : List Nd) (i : Nat) (l : List Entry) : List Entry := if plus then fillN ns i l else l
theorem fillP_zero (plus : Bool) (ns : List Nd) (l : List Entry) : fillP plus ns 0 l = l := by
  unfold fillP
  split
  · exact fillN_zero ns l
  · rfl
theorem fillP_all (plus : Bool) (ns : List Nd) (l : List Entry) : fillP plus ns l.length l = if plus then l.map (fillE ns) else l := by
  unfold fillP
  split
  · exact fillN_all ns l
  · rfl
theorem fillP_len (plus : Bool) (ns : List Nd) (i : Nat) (l : List Entry) : (fillP plus ns i l).length = l.length := by
  unfold fillP
  split
  · exact fillN_len ns i l
  · rfl
theorem fillP_parts (plus : Bool) (ns : List Nd) {i : Nat} {l : List Entry} (h : i < l.length) : ∃ pre post, pre.length = i ∧ fillP plus ns i l = pre ++ l[i] :: post ∧ (plus = true → fillP plus ns (i + 1) l = pre ++ fillE ns l[i] :: post) := by
  have hl := fillP_len plus ns i l
  have hg : (fillP plus ns i l)[i]? = some l[i] := by
    unfold fillP
    split
    · exact fillN_at ns h
    · exact List.getElem?_eq_getElem h
  have hi : i < (fillP plus ns i l).length := by omega
  have hg2 : (fillP plus ns i l)[i] = l[i] := by
    rw [List.getElem?_eq_getElem hi] at hg
    exact Option.some.inj hg
  refine ⟨(fillP plus ns i l).take i, (fillP plus ns i l).drop (i + 1), by rw [List.length_take]; omega, ?_, fun hp => ?_⟩
  · conv => lhs; rw [← List.take_append_drop i (fillP plus ns i l), ← List.getElem_cons_drop hi, hg2]
  · subst hp
    have e1 : fillP true ns (i + 1) l = (fillP true ns i l).set i (fillE ns l[i]) := fillN_next ns h
    rw [e1, List.set_eq_take_append_cons_drop, if_pos hi]
theorem fillP_no {plus : Bool} {ns : List Nd} {i : Nat} {l : List Entry} (h : i < l.length) (hn : plus = false ∨ placeOf ns l[i].gen < 0) : fillP plus ns (i + 1) l = fillP plus ns i l := by
  cases plus with
  | false => rfl
  | true =>
    rcases hn with hn | hn
    · cases hn
    · have e1 : fillP true ns (i + 1) l = (fillP true ns i l).set i (fillE ns l[i]) := fillN_next ns h
      have e2 : (fillP true ns i l)[i]? = some l[i] := fillN_at ns h
      rw [e1, fillE_no hn]
      apply List.ext_getElem?
      intro k
      rw [List.getElem?_set]
      split
      · next hk =>
        subst hk
        rw [if_pos (by rw [fillP_len]; exact h), e2]
      · rfl

def statD (s : Int) : RepD := ⟨(statR s).bare, [], []⟩
/-- what a directory's list tells -/
def listR (ns : List Nd) (u : Cred) (c : Call) (n : Nd) (es : List Entry) (plus : Bool) : RepD :=
  if n.attr.type ≠ 2 then statD 20
  else if mayB (bitsP n.attr u.uid u.gid) 4 = false then statD 13
  else if c.cookie ≠ 0 ∧ c.verf ≠ n.attr.gen then statD 10003
  else if (pageF es c.cookie (min c.count 1024) (if plus then 96 else 0)).2.2 ≠ 0 then statD (pageF es c.cookie (min c.count 1024) (if plus then 96 else 0)).2.2
  else ⟨{ fldsZ with verf := n.attr.gen, eof := (pageF es c.cookie (min c.count 1024) (if plus then 96 else 0)).2.1 }, if plus then (pageF es c.cookie (min c.count 1024) (if plus then 96 else 0)).1.map (fillE ns) else (pageF es c.cookie (min c.count 1024) (if plus then 96 else 0)).1, []⟩
end Go.Proofs.YtgifmpobokaejaaGreatDoor
