/-
  Layer 22, walks: a directory's two lists; what a procedure does. Conditions: rows of the sizes that a tree has.
-/
import Derived.Test.YtgifmpobokaejaaGreatDoorM36
import Derived.Test.YtgifmpobokaejaaGreatDoorM19
import Derived.Test.YtgifmpobokaejaaGreatDoorM31
import Derived.Test.YtgifmpobokaejaaGreatDoorM14
namespace Go.Proofs.YtgifmpobokaejaaGreatDoor
open Go.RowKit
open Go.RowKit
attribute [local go_sem ↓] Go.wp_at_zero Go.wp_at_succ
attribute [local go_sem] rowAt_ptr rowOf_drew rowOf_drewN rowOf_alloc_past rowOf_new
attribute [local go_sem ↓] ldAsk22 ldNode22 ldCred6 ldAttrR ldTree22 ldCall

theorem At.farCells {W : World} {sz g : Nat} {A : Option Addr} {rows : List (List Value)} (h : At W sz A rows) (hg : ∀ p, A = some p → g < p.block) (o : Nat) (cs : List Value) : At (W.setCells g o cs) sz A rows :=
  h.touch (F := fun k => k = g) (Touch.setCells (F := fun k => k = g) (g := g) (.inl rfl) cs o W (Touch.refl _ _)) (fun b off hA hf => by have := hg _ hA; simp only at this; omega)
theorem AskP.plain {r : Reply} {w w' : World} (h : r.ea = none ∧ r.en = 0 ∧ r.ua = none ∧ r.un = 0) (hB : Below w.heap.size w w') : AskP ⟨r.bare, [], []⟩ w (.returned (.agg r.vals.toArray)) w' :=
  ⟨r, rfl, rfl, ⟨h.2.1, At.nil⟩, ⟨h.2.2.2, At.nil⟩, hB, fun p hp => by rcases hp with hp | hp <;> simp [h.1, h.2.2.1] at hp⟩
set_option maxRecDepth 20000 in
set_option maxHeartbeats 1600000 in
theorem askReaddir_any (t : Tr) (u : Cred) (c : Call) (n : Nd) (es : List Entry) (w : World) (hl : t.ns.length ≤ 9223372036854775807) (hA : At w 15 t.na (t.ns.map Nd.vals)) (hgen : ∀ m ∈ t.ns, m.attr.gen ≤ 9223372036854775807)
    (hen : n.en = es.length) (hes : es.length ≤ 70) (hn : ∀ x ∈ es, x.name.length ≤ 300) (hE : At w 15 n.ea (es.map Entry.vals)) (hcc : -9223372036854775808 ≤ c.count ∧ c.count ≤ 9223372036854775807) (hL : LookLaid w) :
    Calls Tryz.prog 75 #[.agg (askV t u c n).toArray] w (AskP (listR t.ns u c n es false) w) := by
  obtain ⟨bA, bR, hB, hs⟩ := chain2_blks w (askV t u c n) replyZ.vals 76 48
  obtain ⟨w1, hw1⟩ : ∃ V, V = (w.alloc (.cells (askV t u c n).toArray 76)).alloc (.cells replyZ.vals.toArray 48) := ⟨_, rfl⟩
  rw [← hw1] at bA bR hB hs
  have r0 : rowOf w1 w.heap.size 0 49 = some (askV t u c n).toArray := by
    have := bA.row 0 49 (by rw [askV_len]; omega)
    rwa [show ((askV t u c n).drop 0).take 49 = askV t u c n from rfl] at this
  have HW1 := Lib.hid hw1
  have HS := Lib.hid hs
  have K := Lib.hid (askList_any t u c n es false w1 hl (hA.below hB) hgen hen hes hn (hE.below hB) hcc (hL.below hB))
  generalize listR t.ns u c n es false = lr at *
  generalize askV t u c n = av at *
  clear hw1 bA hs hA hE hL hgen hn hes
  go_enter Tryz.func75, Tryz.ntmps75
  go_upto_region 1 with fail
  change Code.wp _ _ _ _ ((w.alloc (.cells av.toArray 76)).alloc (.cells replyZ.vals.toArray 48))
  rw [← HW1.out]
  go_wp2_with fail
  refine K.out.mono ?_
  rintro e w2 ⟨z, rfl, hf, he, hu, hb, hfr⟩
  replace bR := bR.stays hb
  have HR := Lib.hid (retReply22 (z := z) bR (below_then hB hb))
  have HF := Lib.hid (And.intro hf (And.intro he (And.intro hu hfr)))
  clear hf he hu hfr hb hB
  go_wp2_with (first | (refine wpList_store_whole (by rfl) 48 _ _ (by rfl) (w.heap.size + 1) z.vals _ bR (by rfl) (by rfl) (by rfl) (by kernel_rfl) (Reply.one _) ?_) | fail)
  refine ret_cells (w.heap.size + 1) 0 z.vals Tryz.results75 Tryz.underlying48 rfl (by kernel_rfl) rfl HR.out.1.range rfl ?_
  obtain ⟨hf, he, hu, hfr⟩ := HF.out
  have hs := HS.out
  exact ⟨z, rfl, hf, ⟨he.1, he.2.farCells (fun p hp => by have := hfr p (.inl hp); omega) _ _⟩, ⟨hu.1, hu.2.farCells (fun p hp => by have := hfr p (.inr hp); omega) _ _⟩, HR.out.2, fun p hp => by have := hfr p hp; omega⟩
set_option maxRecDepth 20000 in
set_option maxHeartbeats 1600000 in
theorem askReaddirplus_any (t : Tr) (u : Cred) (c : Call) (n : Nd) (es : List Entry) (w : World) (hl : t.ns.length ≤ 9223372036854775807) (hA : At w 15 t.na (t.ns.map Nd.vals)) (hgen : ∀ m ∈ t.ns, m.attr.gen ≤ 9223372036854775807)
    (hen : n.en = es.length) (hes : es.length ≤ 70) (hn : ∀ x ∈ es, x.name.length ≤ 300) (hE : At w 15 n.ea (es.map Entry.vals)) (hcc : -9223372036854775808 ≤ c.count ∧ c.count ≤ 9223372036854775807) (hL : LookLaid w) :
    Calls Tryz.prog 76 #[.agg (askV t u c n).toArray] w (AskP (listR t.ns u c n es true) w) := by
  obtain ⟨bA, bR, hB, hs⟩ := chain2_blks w (askV t u c n) replyZ.vals 76 48
  obtain ⟨w1, hw1⟩ : ∃ V, V = (w.alloc (.cells (askV t u c n).toArray 76)).alloc (.cells replyZ.vals.toArray 48) := ⟨_, rfl⟩
  rw [← hw1] at bA bR hB hs
  have r0 : rowOf w1 w.heap.size 0 49 = some (askV t u c n).toArray := by
    have := bA.row 0 49 (by rw [askV_len]; omega)
    rwa [show ((askV t u c n).drop 0).take 49 = askV t u c n from rfl] at this
  have HW1 := Lib.hid hw1
  have HS := Lib.hid hs
  have K := Lib.hid (askList_any t u c n es true w1 hl (hA.below hB) hgen hen hes hn (hE.below hB) hcc (hL.below hB))
  generalize listR t.ns u c n es true = lr at *
  generalize askV t u c n = av at *
  clear hw1 bA hs hA hE hL hgen hn hes
  go_enter Tryz.func76, Tryz.ntmps76
  go_upto_region 1 with fail
  change Code.wp _ _ _ _ ((w.alloc (.cells av.toArray 76)).alloc (.cells replyZ.vals.toArray 48))
  rw [← HW1.out]
  go_wp2_with fail
  refine K.out.mono ?_
  rintro e w2 ⟨z, rfl, hf, he, hu, hb, hfr⟩
  replace bR := bR.stays hb
  have HR := Lib.hid (retReply22 (z := z) bR (below_then hB hb))
  have HF := Lib.hid (And.intro hf (And.intro he (And.intro hu hfr)))
  clear hf he hu hfr hb hB
  go_wp2_with (first | (refine wpList_store_whole (by rfl) 48 _ _ (by rfl) (w.heap.size + 1) z.vals _ bR (by rfl) (by rfl) (by rfl) (by kernel_rfl) (Reply.one _) ?_) | fail)
  refine ret_cells (w.heap.size + 1) 0 z.vals Tryz.results76 Tryz.underlying48 rfl (by kernel_rfl) rfl HR.out.1.range rfl ?_
  obtain ⟨hf, he, hu, hfr⟩ := HF.out
  have hs := HS.out
  exact ⟨z, rfl, hf, ⟨he.1, he.2.farCells (fun p hp => by have := hfr p (.inl hp); omega) _ _⟩, ⟨hu.1, hu.2.farCells (fun p hp => by have := hfr p (.inr hp); omega) _ _⟩, HR.out.2, fun p hp => by have := hfr p hp; omega⟩
/-- a method, as a value -/
def fnV (f : Nat) : Value := .func (.func f) #[] #[]
/-- the method of a procedure that reads -/
def fnOf (p : Int) : Option Nat :=
  if p = 0 ∨ p = 1 then some 70 else if p = 3 then some 71 else if p = 4 then some 72 else if p = 5 then some 73 else if p = 6 then some 74
  else if p = 16 then some 75 else if p = 17 then some 76 else if p = 18 then some 77 else if p = 19 then some 78 else if p = 20 then some 79 else if p = 21 then some 80 else none
def fnVal (p : Int) : Value := match fnOf p with
  | some f => fnV f
  | none => Value.nilFunc
set_option maxRecDepth 20000 in
set_option maxHeartbeats 1600000 in
theorem lookDoes_any (p : Int) (w : World) : Calls Tryz.prog 31 #[.int .i64 p] w fun e w' => e = .returned (fnVal p) ∧ w = w' := by
  by_cases h : p = 0 ∨ p = 1 ∨ p = 3 ∨ p = 4 ∨ p = 5 ∨ p = 6 ∨ p = 16 ∨ p = 17 ∨ p = 18 ∨ p = 19 ∨ p = 20 ∨ p = 21
  · rcases h with rfl | rfl | rfl | rfl | rfl | rfl | rfl | rfl | rfl | rfl | rfl | rfl
    all_goals
      go_enter Tryz.func31, Tryz.ntmps31
      go_wp2
      go_ret
      exact ⟨rfl, rfl⟩
  · obtain ⟨h0, h1, h3, h4, h5, h6, h16, h17, h18, h19, h20, h21⟩ : (p == 0) = false ∧ (p == 1) = false ∧ (p == 3) = false ∧ (p == 4) = false ∧ (p == 5) = false ∧ (p == 6) = false ∧ (p == 16) = false ∧ (p == 17) = false ∧ (p == 18) = false ∧ (p == 19) = false ∧ (p == 20) = false ∧ (p == 21) = false := by
      simp only [beq_eq_false_iff_ne, ne_eq]
      omega
    have HV : fnVal p = Value.nilFunc := by
      unfold fnVal
      rw [show fnOf p = none by unfold fnOf; simp only [beq_eq_false_iff_ne, ne_eq] at h0 h1 h3 h4 h5 h6 h16 h17 h18 h19 h20 h21; simp only [h0, h1, h3, h4, h5, h6, h16, h17, h18, h19, h20, h21, or_self, if_false]]
    rw [HV]
    clear h HV
    go_enter Tryz.func31, Tryz.ntmps31
    go_wp2
    go_ret
    exact ⟨rfl, rfl⟩
end Go.Proofs.YtgifmpobokaejaaGreatDoor

/-
  Layer 22, walks: each method by the number of its procedure. Conditions: a tree that is not too large.
-/
namespace Go.Proofs.YtgifmpobokaejaaGreatDoor
open Go.RowKit
open Go.RowKit
attribute [local go_sem ↓] Go.wp_at_zero Go.wp_at_succ
attribute [local go_sem] rowAt_ptr rowOf_drew rowOf_drewN rowOf_alloc_past rowOf_new

theorem eqlNilF (f : Nat) (w : World) : (binOp .eql 70 (fnV f) Value.nilFunc).run Tryz.prog w = .ok (.bool false) w := by kernel_rfl
theorem neqNilF (f : Nat) (w : World) : (binOp .neq 70 (fnV f) Value.nilFunc).run Tryz.prog w = .ok (.bool true) w := by kernel_rfl
theorem eqlNilN (w : World) : (binOp .eql 70 Value.nilFunc Value.nilFunc).run Tryz.prog w = .ok (.bool true) w := by kernel_rfl
theorem neqNilN (w : World) : (binOp .neq 70 Value.nilFunc Value.nilFunc).run Tryz.prog w = .ok (.bool false) w := by kernel_rfl
theorem callF : ∀ f ∈ [70, 71, 72, 73, 74, 75, 76, 77, 78, 79, 80], ∀ (args : Array Value) (w : World), (callFunc f args).run Tryz.prog w = .ok (.enter f args) w := by
  intro f hf args w
  simp only [List.mem_cons, List.not_mem_nil, or_false] at hf
  rcases hf with rfl | rfl | rfl | rfl | rfl | rfl | rfl | rfl | rfl | rfl | rfl
  all_goals kernel_rfl
/-- a tree in memory, with its entries, not too large -/
structure TreeH (w : World) (t : Tr) (ps : List (Nd × List Entry)) : Prop where
  ns : t.ns = ps.map (·.1)
  at_ : At w 15 t.na (t.ns.map Nd.vals)
  ents : Ents w ps
  few : small t.ns
  rows : ∀ p ∈ ps, p.2.length ≤ 70 ∧ ∀ x ∈ p.2, x.name.length ≤ 300
  gens : ∀ m ∈ t.ns, m.attr.gen ≤ 9223372036854775807
theorem TreeH.below {w w' : World} {t : Tr} {ps : List (Nd × List Entry)} (h : TreeH w t ps) (hb : Below w.heap.size w w') : TreeH w' t ps :=
  ⟨h.ns, h.at_.below hb, h.ents.below hb, h.few, h.rows, h.gens⟩
theorem TreeH.len {w : World} {t : Tr} {ps : List (Nd × List Entry)} (h : TreeH w t ps) : t.ns.length ≤ 9223372036854775807 := Nat.le_trans h.few.1 (by omega)
/-- what is told, but of the node -/
def askR (t : Tr) (u : Cred) (c : Call) (n : Nd) (es : List Entry) : RepD :=
  if c.proc = 3 then ⟨(lookupR t.ns u c n es).bare, [], []⟩ else if c.proc = 4 then ⟨({ replyZ with access := accP n.attr u.uid u.gid c.how } : Reply).bare, [], []⟩ else if c.proc = 5 then ⟨(linkR n).bare, [], []⟩ else if c.proc = 6 then ⟨(readR n u c).bare, [], []⟩
  else if c.proc = 16 then listR t.ns u c n es false else if c.proc = 17 then listR t.ns u c n es true else if c.proc = 18 then ⟨fldsZ, [], nums t u.uid⟩ else if c.proc = 19 then ⟨fldsZ, [], [256, 256, 1024, 1024]⟩ else if c.proc = 20 then ⟨fldsZ, [], [8, 24, 48]⟩ else if c.proc = 21 then ⟨(commitR n u).bare, [], []⟩ else ⟨fldsZ, [], []⟩
theorem plain_statR (s : Int) : (statR s).ea = none ∧ (statR s).en = 0 ∧ (statR s).ua = none ∧ (statR s).un = 0 := ⟨rfl, rfl, rfl, rfl⟩
theorem plain_lookupR (ns : List Nd) (u : Cred) (c : Call) (n : Nd) (es : List Entry) : (lookupR ns u c n es).ea = none ∧ (lookupR ns u c n es).en = 0 ∧ (lookupR ns u c n es).ua = none ∧ (lookupR ns u c n es).un = 0 := by
  unfold lookupR
  repeat' split
  all_goals exact ⟨rfl, rfl, rfl, rfl⟩
theorem plain_linkR (n : Nd) : (linkR n).ea = none ∧ (linkR n).en = 0 ∧ (linkR n).ua = none ∧ (linkR n).un = 0 := by
  unfold linkR
  split
  all_goals exact ⟨rfl, rfl, rfl, rfl⟩
theorem plain_readR (n : Nd) (u : Cred) (c : Call) : (readR n u c).ea = none ∧ (readR n u c).en = 0 ∧ (readR n u c).ua = none ∧ (readR n u c).un = 0 := by
  unfold readR
  split
  all_goals exact ⟨rfl, rfl, rfl, rfl⟩
theorem plain_commitR (n : Nd) (u : Cred) : (commitR n u).ea = none ∧ (commitR n u).en = 0 ∧ (commitR n u).ua = none ∧ (commitR n u).un = 0 := by
  unfold commitR
  split
  all_goals exact ⟨rfl, rfl, rfl, rfl⟩
theorem AskP.of {f : Nat} {a : Array Value} {r : Reply} {w : World} (h : r.ea = none ∧ r.en = 0 ∧ r.ua = none ∧ r.un = 0) (K : Calls Tryz.prog f a w fun e w' => e = .returned (.agg r.vals.toArray) ∧ Below w.heap.size w w') : Calls Tryz.prog f a w (AskP ⟨r.bare, [], []⟩ w) :=
  K.mono fun e w' ⟨he, hb⟩ => by
    subst he
    exact AskP.plain h hb
theorem dataL_len (n : Nd) : (dataL n).length = n.data.size := by unfold dataL; simp
theorem askAny (t : Tr) (ps : List (Nd × List Entry)) (u : Cred) (c : Call) (f : Nat) (p : Nd × List Entry) (hp : p ∈ ps) (w : World) (hT : TreeH w t ps) (hlim : t.lim.ok = true) (hc : c.good) (hL : LookLaid w) (hf : fnOf c.proc = some f) :
    Calls Tryz.prog f #[.agg (askV t u c p.1).toArray] w (AskP (askR t u c p.1 p.2) w) := by
  have hk : c.proc = 0 ∨ c.proc = 1 ∨ c.proc = 3 ∨ c.proc = 4 ∨ c.proc = 5 ∨ c.proc = 6 ∨ c.proc = 16 ∨ c.proc = 17 ∨ c.proc = 18 ∨ c.proc = 19 ∨ c.proc = 20 ∨ c.proc = 21 := by
    unfold fnOf at hf
    repeat' (split at hf)
    all_goals first | omega | cases hf
  have hn : p.1 ∈ t.ns := by rw [hT.ns]; exact List.mem_map_of_mem hp
  have hd : (dataL p.1).length ≤ 1048576 := by rw [dataL_len]; have := hT.few.2 _ hn; omega
  have hes := (hT.rows p hp).1
  have hen := (hT.ents p hp).1
  have hcc : -9223372036854775808 ≤ c.count ∧ c.count ≤ 9223372036854775807 := Go.bounds_i64 hc.2.2.2.2.2.2.1
  have hnm : c.name.length ≤ 9223372036854775807 := hc.2.2.1
  rcases hk with h | h | h | h | h | h | h | h | h | h | h | h
  all_goals
    unfold askR
    simp only [h] at hf ⊢
    have e := Option.some.inj hf
    clear hf
  · subst e
    exact AskP.of (r := replyZ) ⟨rfl, rfl, rfl, rfl⟩ (askNothing_any t u c p.1 w)
  · subst e
    exact AskP.of (r := replyZ) ⟨rfl, rfl, rfl, rfl⟩ (askNothing_any t u c p.1 w)
  · subst e
    exact AskP.of (plain_lookupR _ _ _ _ _) (askLookup_any t u c p.1 p.2 w hT.len hT.at_ hT.gens hen (by omega) (hT.ents p hp).2 hnm hL)
  · subst e
    exact AskP.of ⟨rfl, rfl, rfl, rfl⟩ (askAccess_any t u c p.1 w)
  · subst e
    exact AskP.of (plain_linkR _) (askReadlink_any t u c p.1 w)
  · subst e
    exact AskP.of (plain_readR _ _ _) (askRead_any t u c p.1 w hd hc)
  · subst e
    exact askReaddir_any t u c p.1 p.2 w hT.len hT.at_ hT.gens hen hes (hT.rows p hp).2 (hT.ents p hp).2 hcc hL
  · subst e
    exact askReaddirplus_any t u c p.1 p.2 w hT.len hT.at_ hT.gens hen hes (hT.rows p hp).2 (hT.ents p hp).2 hcc hL
  · subst e
    exact ask_fsstat_any t u c p.1 w hT.few hlim hT.at_
  · subst e
    exact ask_fsinfo_any t u c p.1 w
  · subst e
    exact ask_pathconf_any t u c p.1 w
  · subst e
    exact AskP.of (plain_commitR _ _) (askCommit_any t u c p.1 w)
end Go.Proofs.YtgifmpobokaejaaGreatDoor


/-
  Layer 22, walks: how many entries name a node, by the document, exact. Condition: a tree that is not too large.
-/
namespace Go.Proofs.YtgifmpobokaejaaGreatDoor
open Go.RowKit
open Go.RowKit
attribute [local go_sem ↓] Go.wp_at_zero Go.wp_at_succ
attribute [local go_sem] rowAt_ptr rowOf_drew rowOf_drewN rowOf_alloc_past rowOf_new
attribute [local go_sem ↓] ldNode22 ldTree22 ldAttrR ldEntry

theorem TreeH.rowAt2 {w : World} {t : Tr} {ps : List (Nd × List Entry)} (h : TreeH w t ps) {k : Nat} (hk : k < t.ns.length) : ∃ hk2 : k < ps.length, t.ns[k] = ps[k].1 ∧ ps[k].1.en = ps[k].2.length ∧ At w 15 ps[k].1.ea (ps[k].2.map Entry.vals) ∧ ps[k].2.length ≤ 70 := by
  have hns := h.ns
  have hkp : k < ps.length := by rw [hns, List.length_map] at hk; exact hk
  refine ⟨hkp, by simp only [hns, List.getElem_map], (h.ents _ (List.getElem_mem hkp)).1, (h.ents _ (List.getElem_mem hkp)).2, (h.rows _ (List.getElem_mem hkp)).1⟩
theorem namedF_at {g : Int} {ps : List (Nd × List Entry)} {k : Nat} (hk : k < ps.length) (a : Int × Int) : namedF g (ps.drop k) a = namedF g (ps.drop (k + 1)) (namedE g ps[k].1.attr.gen ps[k].2 a) := by
  rw [List.drop_eq_getElem_cons hk, namedF]
theorem namedE_at {g d : Int} {es : List Entry} {m : Nat} (hm : m < es.length) (a : Int × Int) : namedE g d (es.drop m) a = namedE g d (es.drop (m + 1)) (if es[m].gen = g then (a.1 + 1, d) else a) := by
  rw [List.drop_eq_getElem_cons hm, namedE]
theorem namedF_end {g : Int} {ps : List (Nd × List Entry)} {k : Nat} (hk : ps.length ≤ k) (a : Int × Int) : namedF g (ps.drop k) a = a := by
  rw [List.drop_of_length_le hk, namedF]
theorem namedE_end {g d : Int} {es : List Entry} {m : Nat} (hm : es.length ≤ m) (a : Int × Int) : namedE g d (es.drop m) a = a := by
  rw [List.drop_of_length_le hm, namedE]
/-- the number of names comes back -/
def NamedP (R : Int × Int) (w : World) (e : Ending) (w' : World) : Prop := e = .returned (.tuple #[.int .i64 R.1, .int .i64 R.2]) ∧ Below w.heap.size w w'
set_option maxRecDepth 20000 in
set_option maxHeartbeats 1600000 in
theorem refNamed_iff (t : Tr) (ps : List (Nd × List Entry)) (g : Int) (w : World) (hT : TreeH w t ps) :
    Calls Tryz.prog 68 #[t.val, .int .i64 g] w (NamedP (named ps g) w) := by
  have hX := Blk.new w 26 t.vals
  have hB : Below w.heap.size w (w.alloc (.cells t.vals.toArray 26)) := (Below.refl _ _).alloc (Nat.le_refl _) _
  obtain ⟨w1, hw1⟩ : ∃ V, V = w.alloc (.cells t.vals.toArray 26) := ⟨_, rfl⟩
  rw [← hw1] at hX hB
  have c5 : w1.cell? ⟨w.heap.size, 5, none⟩ = some (.slice t.na t.ns.length t.nc) := hX.cell 5
  have HW1 := Lib.hid hw1
  have HT := Lib.hid (hT.below hB)
  have HB := Lib.hid hB
  have hl := hT.len
  have hl70 := hT.few.1
  have hA1 := HT.out.at_
  have hlp : t.ns.length = ps.length := by rw [hT.ns, List.length_map]
  obtain ⟨R, hR⟩ : ∃ R, R = named ps g := ⟨_, rfl⟩
  have HR0 := Lib.hid (show namedF g (ps.drop 0) (0, 0) = R from hR.symm)
  rw [← hR]
  clear hw1 hX hT hB hR
  unfold Tr.val
  generalize hna : t.na = A at *
  have HR := Lib.hid (fun (k : Nat) (hk : k < t.ns.length) => HT.out.rowAt2 hk)
  generalize t.ns = ns at *
  have HLP := Lib.hid hlp
  go_enter Tryz.func68, Tryz.ntmps68
  go_upto_region 1 with fail
  change Code.wp _ _ _ _ (w.alloc (.cells t.vals.toArray 26))
  rw [← HW1.out]
  clear hna HT hlp
  go_wp2
  go_loopw [6, 7, 8] (fun a b i wr => ∃ (x y : Int) (k : Nat), a = .int .i64 x ∧ b = .int .i64 y ∧ k ≤ ns.length ∧ i = .int .i64 k ∧ 0 ≤ x ∧ x ≤ 70 * k ∧ namedF g (ps.drop k) (x, y) = R ∧ wr = w1) (fun _ _ i _ => ns.length - (intOf i).toNat)
  case atStart => exact ⟨0, 0, 0, rfl, rfl, Nat.zero_le _, rfl, by omega, by omega, HR0.out, rfl⟩
  case round =>
    obtain ⟨x, y, k, rfl, rfl, hk, rfl, hx0, hx1, hf, rfl⟩ := hrel
    have HF := Lib.hid hf
    clear hf
    by_cases hlt : k < ns.length
    · obtain ⟨hkp, hnp, hen, hE, h70⟩ := HR.out k hlt
      obtain ⟨b, off, rfl, hb, -, cc⟩ := rowCell8 Nd.len (by decide) hA1 hlt
      rw [hnp] at cc
      have c7 := cc 7 _ rfl
      have c14 := cc 14 _ rfl
      rw [hen] at c14
      have hk0 : (0 : Int) ≤ (k : Int) := Int.natCast_nonneg _
      have hk1 : (k : Int) < (ns.length : Int) := by omega
      have hiw : IntKind.i64.wrap ((k : Int) + 1) = ((k + 1 : Nat) : Int) := by rw [IntWalk.i64_in _ (by omega)]; omega
      have HF2 := Lib.hid (show namedF g (ps.drop (k + 1)) (namedE g ps[k].1.attr.gen (ps[k].2.drop 0) (x, y)) = R by rw [List.drop_zero, ← namedF_at hkp]; exact HF.out)
      generalize ps[k].2 = es at *
      have hd7 : Value.int .i64 (ps[k].1.attr.gen) = Value.int .i64 (ps[k].1.attr.gen) := rfl
      change World.cell? _ _ = some (Value.int .i64 (ps[k].1.attr.gen)) at c7
      generalize ps[k].1.attr.gen = d at *
      clear cc hnp hen hd7 HF
      go_wp2
      go_loopw [6, 7, 10] (fun a b j V => ∃ (x y : Int) (m : Nat), a = .int .i64 x ∧ b = .int .i64 y ∧ m ≤ es.length ∧ j = .int .i64 m ∧ 0 ≤ x ∧ x ≤ 70 * k + m ∧ namedF g (ps.drop (k + 1)) (namedE g d (es.drop m) (x, y)) = R ∧ V = wr) (fun _ _ j _ => es.length - (intOf j).toNat)
      case atStart => exact ⟨x, y, 0, rfl, rfl, Nat.zero_le _, rfl, by omega, by omega, HF2.out, rfl⟩
      case round =>
        obtain ⟨x, y, m, rfl, rfl, hm, rfl, hx0, hx1, hf, rfl⟩ := hrel
        have HF := Lib.hid hf
        clear hf HF2
        by_cases hlm : m < es.length
        · obtain ⟨be, oe, hea, hbe, -, ce⟩ := rowCell8 Entry.len (by decide) hE hlm
          rw [hea] at c14
          have c0 : World.cell? _ ⟨be, oe + m * 15, none⟩ = some (.int .i64 es[m].gen) := ce 0 _ rfl
          have hm0 : (0 : Int) ≤ (m : Int) := Int.natCast_nonneg _
          have hm1 : (m : Int) < (es.length : Int) := by omega
          have him : IntKind.i64.wrap ((m : Int) + 1) = ((m + 1 : Nat) : Int) := by rw [IntWalk.i64_in _ (by omega)]; omega
          have hxw : IntKind.i64.wrap (x + 1) = x + 1 := IntWalk.i64_in _ (by omega)
          rw [hea]
          by_cases hg : es[m].gen = g
          · have HN := Lib.hid (show namedF g (ps.drop (k + 1)) (namedE g d (es.drop (m + 1)) (x + 1, d)) = R by
              have h := HF.out
              rw [namedE_at hlm, if_pos hg] at h
              exact h)
            rw [hg] at c0
            clear ce hE
            go_wp2
            go_roundw
            case rel => exact ⟨_, _, m + 1, rfl, rfl, by omega, by first | rfl | go_num, by omega, by omega, HN.out, by first | rfl | trivial⟩
            case measure => simp [intOf]; omega
          · have hg2 : (es[m].gen == g) = false := by simpa using hg
            have HN := Lib.hid (show namedF g (ps.drop (k + 1)) (namedE g d (es.drop (m + 1)) (x, y)) = R by
              have h := HF.out
              rw [namedE_at hlm, if_neg hg] at h
              exact h)
            clear ce hE
            go_wp2
            go_roundw
            case rel => exact ⟨_, _, m + 1, rfl, rfl, by omega, by first | rfl | go_num, by omega, by omega, HN.out, by first | rfl | trivial⟩
            case measure => simp [intOf]; omega
        · obtain rfl : m = es.length := by omega
          have hlm : ¬ (es.length : Int) < (es.length : Int) := by omega
          have HN := Lib.hid (show namedF g (ps.drop (k + 1)) (x, y) = R by
            have h := HF.out
            rw [namedE_end (Nat.le_refl _)] at h
            exact h)
          clear hE
          go_wp2
          go_roundw
          case rel => exact ⟨_, _, k + 1, rfl, rfl, by omega, by first | rfl | go_num, by omega, by omega, HN.out, by first | rfl | trivial⟩
          case measure => simp [intOf]; omega
    · obtain rfl : k = ns.length := by omega
      have HN := Lib.hid (show (x, y) = R by
        have h := HF.out
        rw [namedF_end (by have := HLP.out; omega)] at h
        exact h)
      go_wp2
      go_ret2
      have e := HN.out
      subst e
      exact ⟨rfl, HB.out⟩
end Go.Proofs.YtgifmpobokaejaaGreatDoor


/-
  Layer 22, walks: whether a directory comes to the root, by the program. Condition: a tree of machine length.
-/
namespace Go.Proofs.YtgifmpobokaejaaGreatDoor
open Go.RowKit
open Go.RowKit
attribute [local go_sem ↓] Go.wp_at_zero Go.wp_at_succ
attribute [local go_sem] rowAt_ptr rowOf_drew rowOf_drewN rowOf_alloc_past rowOf_new
attribute [local go_sem ↓] ldNode22 ldTree22

set_option maxRecDepth 20000 in
set_option maxHeartbeats 1600000 in
theorem lookComes_any (t : Tr) (n : Nd) (w : World) (hl : t.ns.length ≤ 1000) (hA : At w 15 t.na (t.ns.map Nd.vals)) :
    Calls Tryz.prog 123 #[t.val, .agg n.vals.toArray] w fun e w' => e = .returned (.bool (comesP t.ns t.ns.length n)) ∧ Below w.heap.size w w' := by
  obtain ⟨bT, bN, hB, hs⟩ := chain2_blks w t.vals n.vals 26 65
  obtain ⟨w1, hw1⟩ : ∃ V, V = (w.alloc (.cells t.vals.toArray 26)).alloc (.cells n.vals.toArray 65) := ⟨_, rfl⟩
  rw [← hw1] at bT bN hB hs
  have HW1 := Lib.hid hw1
  have HT := Lib.hid bT
  have HN := Lib.hid bN
  have HB := Lib.hid hB
  have HA := Lib.hid hA
  have c5 : w1.cell? ⟨w.heap.size, 5, none⟩ = some (.slice t.na t.ns.length t.nc) := bT.cell 5
  have KO := Lib.hid (fun W (h : Below w.heap.size w W) g => lookOf_any t g W (by omega) (hA.below h))
  have HPL := Lib.hid (fun g (h : ¬ placeOf t.ns g < 0) => placeOf_at (ns := t.ns) (gen := g) h)
  generalize hres : comesP t.ns t.ns.length n = res at *
  clear hw1 bT bN hs hB hA
  unfold Tr.val at KO ⊢
  go_enter Tryz.func123, Tryz.ntmps123
  go_upto_region 1 with fail
  change Code.wp _ _ _ _ ((w.alloc (.cells t.vals.toArray 26)).alloc (.cells n.vals.toArray 65))
  rw [← HW1.out]
  have HRes := Lib.hid hres
  clear hres HW1
  go_wp2
  go_loopw [9] (fun i wr => ∃ (k : Nat) (m : Nd), k ≤ t.ns.length ∧ i = .int .i64 k ∧ comesP t.ns (t.ns.length - k) m = res ∧ Blk wr (w.heap.size + 1) 65 m.vals ∧ Blk wr w.heap.size 26 t.vals ∧ Below w.heap.size w wr) (fun i _ => t.ns.length - (intOf i).toNat)
  case atStart => exact ⟨0, n, Nat.zero_le _, rfl, HRes.out, HN.out, HT.out, HB.out⟩
  case round =>
    obtain ⟨k, m, hk, rfl, hr, bN, bT, hb⟩ := hrel
    have c5 : wr.cell? ⟨w.heap.size, 5, none⟩ = some (.slice t.na t.ns.length t.nc) := bT.cell 5
    have cG : wr.cell? ⟨w.heap.size + 1, 7, none⟩ = some (.int .i64 m.attr.gen) := bN.cell 7
    have cP : wr.cell? ⟨w.heap.size + 1, 12, none⟩ = some (.int .i64 m.parent) := bN.cell 12
    have rT : rowOf wr w.heap.size 0 6 = some t.vals.toArray := bT.row 0 6 (by rw [Tr.len]; omega)
    have hk0 : (0 : Int) ≤ (k : Int) := Int.natCast_nonneg _
    have HBr := Lib.hid hb
    have HbN := Lib.hid bN
    have HbT := Lib.hid bT
    clear hb bN bT
    by_cases hlt : k < t.ns.length
    · have hk1 : (k : Int) < (t.ns.length : Int) := by omega
      have hiw : IntKind.i64.wrap ((k : Int) + 1) = ((k + 1 : Nat) : Int) := by rw [IntWalk.i64_in _ (by omega)]; omega
      obtain ⟨q, hq⟩ : ∃ q, t.ns.length - k = q + 1 := ⟨t.ns.length - k - 1, by omega⟩
      rw [hq, comesP] at hr
      have hq2 : t.ns.length - (k + 1) = q := by omega
      by_cases hg : m.attr.gen = 1
      · rw [if_pos hg] at hr
        subst hr
        rw [hg] at cG
        clear hq hq2
        go_wp2
        go_ret
        exact ⟨rfl, HBr.out⟩
      rw [if_neg hg] at hr
      have hg1 : (m.attr.gen == 1) = false := by simpa using hg
      have KOk := Lib.hid (KO.out wr HBr.out m.parent)
      have HPk := Lib.hid (fun (h : ¬ placeOf t.ns m.parent < 0) => HPL.out m.parent (by omega))
      have HRr := Lib.hid hr
      generalize placeOf t.ns m.parent = pl at *
      clear hr hq
      have HQ2 := Lib.hid hq2
      clear hq2
      go_wp2_with fail
      refine KOk.out.mono ?_
      rintro e w4 ⟨rfl, hb4⟩
      have bN4 := HbN.out.stays hb4
      have bT4 := HbT.out.stays hb4
      have HB4 := Lib.hid (below_then HBr.out hb4)
      replace c5 : w4.cell? ⟨w.heap.size, 5, none⟩ = some (.slice t.na t.ns.length t.nc) := bT4.cell 5
      clear hb4 cG cP rT KOk HbN HbT
      by_cases hp : pl < 0
      · have hres : false = res := by have := HRr.out; rwa [if_pos hp] at this
        subst hres
        clear bN4 bT4
        go_wp2
        go_ret
        exact ⟨rfl, HB4.out⟩
      have hr2 := HRr.out
      rw [if_neg hp] at hr2
      obtain ⟨p, hp1, hp2, hp3, -⟩ := HPk.out (by omega)
      rw [hp3] at hr2
      subst hp1
      obtain ⟨b1, o1, hna, hb1, rn, -⟩ := rowCell8 Nd.len (by decide) (HA.out.below HB4.out) hp2
      rw [hna] at c5
      have hpi0 : (0 : Int) ≤ (p : Int) := Int.natCast_nonneg _
      have hpi1 : (p : Int) < (t.ns.length : Int) := by omega
      generalize t.ns[p] = nd at *
      have HX := Lib.hid (And.intro hr2 (And.intro (bN4.whole (cs := nd.vals) (by rw [Nd.len, Nd.len])) (And.intro (Blk.farCells (b := w.heap.size + 1) (by omega) nd.vals 0 w4 bT4) (Below.setWhole (b := w.heap.size + 1) HB4.out (by omega) nd.vals))))
      clear hr2 bT4 hp3 HPk HRr hna
      have tok : True := trivial
      go_wp2_with (first | (clear tok; refine wpList_store_whole (by rfl) 65 _ _ (by rfl) (w.heap.size + 1) nd.vals m.vals bN4 (by rw [Nd.len, Nd.len]) (by rfl) (by rfl) (by kernel_rfl) (Nd.one _) ?_) | fail)
      go_roundw
      case rel => exact ⟨k + 1, nd, by omega, by first | rfl | go_num, by rw [HQ2.out]; exact HX.out.1, HX.out.2.1, HX.out.2.2.1, HX.out.2.2.2⟩
      case measure => simp [intOf]; omega
    · obtain rfl : k = t.ns.length := by omega
      have hlm : ¬ (t.ns.length : Int) < (t.ns.length : Int) := by omega
      rw [Nat.sub_self, comesP] at hr
      subst hr
      go_wp2
      go_ret
      exact ⟨rfl, HBr.out⟩
end Go.Proofs.YtgifmpobokaejaaGreatDoor


/-
  Layer 22, walks: the program's Do. Conditions: a tree that is not too large.
-/
namespace Go.Proofs.YtgifmpobokaejaaGreatDoor
open Go.RowKit
open Go.RowKit
attribute [local go_sem ↓] Go.wp_at_zero Go.wp_at_succ
attribute [local go_sem] rowAt_ptr rowOf_drew rowOf_drewN rowOf_alloc_past rowOf_new
attribute [local go_sem ↓] ldAsk22 ldNode22 ldCred6 ldAttrR ldTree22 ldCall ldReply

theorem chain4_blks (w : World) (a b c d : List Value) (S T U V : TypeId) : Blk ((((w.alloc (.cells a.toArray S)).alloc (.cells b.toArray T)).alloc (.cells c.toArray U)).alloc (.cells d.toArray V)) w.heap.size S a ∧ Blk ((((w.alloc (.cells a.toArray S)).alloc (.cells b.toArray T)).alloc (.cells c.toArray U)).alloc (.cells d.toArray V)) (w.heap.size + 1) T b ∧
    Blk ((((w.alloc (.cells a.toArray S)).alloc (.cells b.toArray T)).alloc (.cells c.toArray U)).alloc (.cells d.toArray V)) (w.heap.size + 1 + 1) U c ∧ Blk ((((w.alloc (.cells a.toArray S)).alloc (.cells b.toArray T)).alloc (.cells c.toArray U)).alloc (.cells d.toArray V)) (w.heap.size + 1 + 1 + 1) V d ∧
    Below w.heap.size w ((((w.alloc (.cells a.toArray S)).alloc (.cells b.toArray T)).alloc (.cells c.toArray U)).alloc (.cells d.toArray V)) ∧ ((((w.alloc (.cells a.toArray S)).alloc (.cells b.toArray T)).alloc (.cells c.toArray U)).alloc (.cells d.toArray V)).heap.size = w.heap.size + 1 + 1 + 1 + 1 := by
  obtain ⟨h1, h2, h3, h4, h5⟩ := chain3_blks w a b c S T U
  generalize ((w.alloc (.cells a.toArray S)).alloc (.cells b.toArray T)).alloc (.cells c.toArray U) = w1 at *
  have h6 := Blk.new w1 V d
  rw [h5] at h6
  exact ⟨h1.alloc _, h2.alloc _, h3.alloc _, h6, h4.alloc h4.size _, by simp [h5]⟩
/-- four structs are built into one -/
@[irreducible] def catV (A B C D : Value) : Value := .agg (A.cells ++ (B.cells ++ (C.cells ++ D.cells)))
theorem catV_ask (t : Tr) (u : Cred) (c : Call) (n : Nd) : catV (.agg t.vals.toArray) (.agg u.vals.toArray) (.agg c.vals.toArray) (.agg n.vals.toArray) = .agg (askV t u c n).toArray := by
  unfold catV askV
  simp [Value.cells]
@[irreducible] def sizesV (A B C D : Value) : Prop := ∃ (t : Tr) (u : Cred) (c : Call) (n : Nd), A = .agg t.vals.toArray ∧ B = .agg u.vals.toArray ∧ C = .agg c.vals.toArray ∧ D = .agg n.vals.toArray
theorem sizesV_ask (t : Tr) (u : Cred) (c : Call) (n : Nd) : sizesV (.agg t.vals.toArray) (.agg u.vals.toArray) (.agg c.vals.toArray) (.agg n.vals.toArray) := by
  unfold sizesV
  exact ⟨t, u, c, n, rfl, rfl, rfl, rfl⟩
theorem runBuildAsk (t : Tr) (u : Cred) (c : Call) (n : Nd) (w : World) : (Instr.build 76 #[(0, .agg t.vals.toArray), (1, .agg u.vals.toArray), (2, .agg c.vals.toArray), (3, .agg n.vals.toArray)]).run Tryz.prog w = .ok (.agg (askV t u c n).toArray) w := by
  kernel_rfl
theorem exBuildAsk {ρ : Operand → Value} {w : World} {dst : Option Tmp} {ty : TypeId} {pos : String} {after : Array Edge} {g : Option (Nat × Bool)} {a b c d : Operand} (h : sizesV (ρ a) (ρ b) (ρ c) (ρ d)) :
    (execOp ρ ⟨dst, .build 76 #[(0, a), (1, b), (2, c), (3, d)], ty, pos, after, g⟩).run Tryz.prog w = .ok (.value (catV (ρ a) (ρ b) (ρ c) (ρ d))) w := by
  unfold sizesV at h
  obtain ⟨t, u, cl, n, h1, h2, h3, h4⟩ := h
  rw [h1, h2, h3, h4, catV_ask]
  unfold execOp
  simp only [List.map_toArray, List.map_cons, List.map_nil, h1, h2, h3, h4]
  rw [Sem.run_bind, runBuildAsk]
  rfl
/-- two structs are built into one -/
@[irreducible] def cat2V (A B : Value) : Value := .agg (A.cells ++ B.cells)
theorem cat2V_wcc (x : Bool) (y : Int) (p : Post) : cat2V (.agg #[.bool x, .int .i64 y]) (.agg p.vals.toArray) = .agg (Wcc.mk ⟨x, y⟩ p).vals.toArray := by
  unfold cat2V
  simp [Value.cells, Wcc.vals, Opt.vals]
@[irreducible] def sizes2V (A B : Value) : Prop := ∃ (x : Bool) (y : Int) (p : Post), A = .agg #[.bool x, .int .i64 y] ∧ B = .agg p.vals.toArray
theorem sizes2V_wcc (x : Bool) (y : Int) (p : Post) : sizes2V (.agg #[.bool x, .int .i64 y]) (.agg p.vals.toArray) := by
  unfold sizes2V
  exact ⟨x, y, p, rfl, rfl⟩
theorem runBuildWcc (x : Bool) (y : Int) (p : Post) (w : World) : (Instr.build 44 #[(0, .agg #[.bool x, .int .i64 y]), (1, .agg p.vals.toArray)]).run Tryz.prog w = .ok (.agg (Wcc.mk ⟨x, y⟩ p).vals.toArray) w := by
  kernel_rfl
theorem exBuildWcc {ρ : Operand → Value} {w : World} {dst : Option Tmp} {ty : TypeId} {pos : String} {after : Array Edge} {g : Option (Nat × Bool)} {a b : Operand} (h : sizes2V (ρ a) (ρ b)) :
    (execOp ρ ⟨dst, .build 44 #[(0, a), (1, b)], ty, pos, after, g⟩).run Tryz.prog w = .ok (.value (cat2V (ρ a) (ρ b))) w := by
  unfold sizes2V at h
  obtain ⟨x, y, p, h1, h2⟩ := h
  rw [h1, h2, cat2V_wcc]
  unfold execOp
  simp only [List.map_toArray, List.map_cons, List.map_nil, h1, h2]
  rw [Sem.run_bind, runBuildWcc]
  rfl
theorem stWcc22 {ρ : Operand → Value} {w : World} {dst : Option Tmp} {ty : TypeId} {pos : String} {after : Array Edge} {g : Option (Nat × Bool)} {x y : Operand} (hx : ptrAt (ρ x) = true) (hy : rowOk 13 (ρ y)) (ht : w.there (blkAt (ρ x)) (offAt (ρ x)) 13) :
    (execOp ρ ⟨dst, .store 44 x y, ty, pos, after, g⟩).run Tryz.prog w = .ok .skip (putsW w (blkAt (ρ x)) (offAt (ρ x)) (ρ y).cells.toList) := exStoreAt (by kernel_rfl) hx hy ht
/-- what is told of the node besides -/
def toldR (p : Int) (n : Nd) (r : RepD) : RepD :=
  if p = 3 then { r with f := { r.f with dir := postN n } } else if p = 21 then { r with f := { r.f with wcc := ⟨⟨true, n.attr.change⟩, postN n⟩ } } else { r with f := { r.f with obj := postN n } }
/-- results, and whether the procedure reads -/
def doR (t : Tr) (ps : List (Nd × List Entry)) (u : Cred) (c : Call) : RepD × Bool :=
  if c.proc = 0 then (⟨fldsZ, [], []⟩, true)
  else if fnOf c.proc = none then (⟨fldsZ, [], []⟩, false)
  else if (atP t.ns c.fh).2 ≠ 0 then (statD (atP t.ns c.fh).2, true)
  else (toldR c.proc (ps.getD (atP t.ns c.fh).1.toNat (ndZ, [])).1 (askR t u c (ps.getD (atP t.ns c.fh).1.toNat (ndZ, [])).1 (ps.getD (atP t.ns c.fh).1.toNat (ndZ, [])).2), true)
def DoP (d : RepD × Bool) (w : World) (e : Ending) (w' : World) : Prop :=
  ∃ z : Reply, e = .returned (.tuple #[.agg z.vals.toArray, .bool d.2]) ∧ z.bare = d.1.f ∧ (z.en = d.1.es.length ∧ At w' 15 z.ea (d.1.es.map Entry.vals)) ∧ (z.un = d.1.us.length ∧ At w' 1 z.ua (d.1.us.map int1)) ∧ Below w.heap.size w w'
end Go.Proofs.YtgifmpobokaejaaGreatDoor
