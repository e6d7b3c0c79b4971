/-
  Layer 22, walks: a directory's two lists; what a procedure does. Conditions: rows of the sizes that a tree has.
-/
import Derived.Test.YtgifmpobokaejaaGreatDoorF33
import Derived.Test.YtgifmpobokaejaaGreatDoorF19
import Derived.Test.YtgifmpobokaejaaGreatDoorF21
import Derived.Test.YtgifmpobokaejaaGreatDoorF06
import Derived.Test.YtgifmpobokaejaaGreatDoorF32
import Derived.Test.YtgifmpobokaejaaGreatDoorF23
namespace Go.Proofs.YtgifmpobokaejaaGreatDoor
open Go.RowKit
open Go.RowKit
attribute [local go_sem ↓] Go.wp_at_zero Go.wp_at_succ
attribute [local go_sem] rowAt_ptr rowOf_drew rowOf_drewN rowOf_alloc_past rowOf_new
attribute [local go_sem ↓] ldAsk22 ldNode22 ldCred6 ldAttrR ldTree22 ldCall

theorem At.farCells {W : World} {sz g : Nat} {A : Option Addr} {rows : List (List Value)} (h : At W sz A rows) (hg : ∀ p, A = some p → g < p.block) (o : Nat) (cs : List Value) : At (W.setCells g o cs) sz A rows :=
  h.touch (F := fun k => k = g) (Touch.setCells (F := fun k => k = g) (g := g) (.inl rfl) cs o W (Touch.refl _ _)) (fun b off hA hf => by have := hg _ hA; simp only at this; omega)
theorem AskP.plain {r : Reply} {w w' : World} (h : r.ea = none ∧ r.en = 0 ∧ r.ua = none ∧ r.un = 0) (hB : Below w.heap.size w w') : AskP ⟨r.bare, [], []⟩ w (.returned (.agg r.vals.toArray)) w' :=
  ⟨r, rfl, rfl, ⟨h.2.1, At.nil⟩, ⟨h.2.2.2, At.nil⟩, hB, fun p hp => by rcases hp with hp | hp <;> simp [h.1, h.2.2.1] at hp⟩
set_option maxRecDepth 20000 in
set_option maxHeartbeats 1600000 in
theorem askReaddir_any (t : Tr) (u : Cred) (c : Call) (n : Nd) (es : List Entry) (w : World) (hl : t.ns.length ≤ 9223372036854775807) (hA : At w 15 t.na (t.ns.map Nd.vals)) (hgen : ∀ m ∈ t.ns, m.attr.gen ≤ 9223372036854775807)
    (hen : n.en = es.length) (hes : es.length ≤ 70) (hn : ∀ x ∈ es, x.name.length ≤ 300) (hE : At w 15 n.ea (es.map Entry.vals)) (hcc : -9223372036854775808 ≤ c.count ∧ c.count ≤ 9223372036854775807) (hL : LookLaid w) :
    Calls Tryz.prog 75 #[.agg (askV t u c n).toArray] w (AskP (listR t.ns u c n es false) w) := by
  obtain ⟨bA, bR, hB, hs⟩ := chain2_blks w (askV t u c n) replyZ.vals 76 48
  obtain ⟨w1, hw1⟩ : ∃ V, V = (w.alloc (.cells (askV t u c n).toArray 76)).alloc (.cells replyZ.vals.toArray 48) := ⟨_, rfl⟩
  rw [← hw1] at bA bR hB hs
  have r0 : rowOf w1 w.heap.size 0 49 = some (askV t u c n).toArray := by
    have := bA.row 0 49 (by rw [askV_len]; omega)
    rwa [show ((askV t u c n).drop 0).take 49 = askV t u c n from rfl] at this
  have HW1 := Lib.hid hw1
  have HS := Lib.hid hs
  have K := Lib.hid (askList_any t u c n es false w1 hl (hA.below hB) hgen hen hes hn (hE.below hB) hcc (hL.below hB))
  generalize listR t.ns u c n es false = lr at *
  generalize askV t u c n = av at *
  clear hw1 bA hs hA hE hL hgen hn hes
  go_enter Tryz.func75, Tryz.ntmps75
  go_upto_region 1 with fail
  change Code.wp _ _ _ _ ((w.alloc (.cells av.toArray 76)).alloc (.cells replyZ.vals.toArray 48))
  rw [← HW1.out]
  go_wp2_with fail
  refine K.out.mono ?_
  rintro e w2 ⟨z, rfl, hf, he, hu, hb, hfr⟩
  replace bR := bR.stays hb
  have HR := Lib.hid (retReply22 (z := z) bR (below_then hB hb))
  have HF := Lib.hid (And.intro hf (And.intro he (And.intro hu hfr)))
  clear hf he hu hfr hb hB
  go_wp2_with (first | (refine wpList_store_whole (by rfl) 48 _ _ (by rfl) (w.heap.size + 1) z.vals _ bR (by rfl) (by rfl) (by rfl) (by kernel_rfl) (Reply.one _) ?_) | fail)
  refine ret_cells (w.heap.size + 1) 0 z.vals Tryz.results75 Tryz.underlying48 rfl (by kernel_rfl) rfl HR.out.1.range rfl ?_
  obtain ⟨hf, he, hu, hfr⟩ := HF.out
  have hs := HS.out
  exact ⟨z, rfl, hf, ⟨he.1, he.2.farCells (fun p hp => by have := hfr p (.inl hp); omega) _ _⟩, ⟨hu.1, hu.2.farCells (fun p hp => by have := hfr p (.inr hp); omega) _ _⟩, HR.out.2, fun p hp => by have := hfr p hp; omega⟩
set_option maxRecDepth 20000 in
set_option maxHeartbeats 1600000 in
theorem askReaddirplus_any (t : Tr) (u : Cred) (c : Call) (n : Nd) (es : List Entry) (w : World) (hl : t.ns.length ≤ 9223372036854775807) (hA : At w 15 t.na (t.ns.map Nd.vals)) (hgen : ∀ m ∈ t.ns, m.attr.gen ≤ 9223372036854775807)
    (hen : n.en = es.length) (hes : es.length ≤ 70) (hn : ∀ x ∈ es, x.name.length ≤ 300) (hE : At w 15 n.ea (es.map Entry.vals)) (hcc : -9223372036854775808 ≤ c.count ∧ c.count ≤ 9223372036854775807) (hL : LookLaid w) :
    Calls Tryz.prog 76 #[.agg (askV t u c n).toArray] w (AskP (listR t.ns u c n es true) w) := by
  obtain ⟨bA, bR, hB, hs⟩ := chain2_blks w (askV t u c n) replyZ.vals 76 48
  obtain ⟨w1, hw1⟩ : ∃ V, V = (w.alloc (.cells (askV t u c n).toArray 76)).alloc (.cells replyZ.vals.toArray 48) := ⟨_, rfl⟩
  rw [← hw1] at bA bR hB hs
  have r0 : rowOf w1 w.heap.size 0 49 = some (askV t u c n).toArray := by
    have := bA.row 0 49 (by rw [askV_len]; omega)
    rwa [show ((askV t u c n).drop 0).take 49 = askV t u c n from rfl] at this
  have HW1 := Lib.hid hw1
  have HS := Lib.hid hs
  have K := Lib.hid (askList_any t u c n es true w1 hl (hA.below hB) hgen hen hes hn (hE.below hB) hcc (hL.below hB))
  generalize listR t.ns u c n es true = lr at *
  generalize askV t u c n = av at *
  clear hw1 bA hs hA hE hL hgen hn hes
  go_enter Tryz.func76, Tryz.ntmps76
  go_upto_region 1 with fail
  change Code.wp _ _ _ _ ((w.alloc (.cells av.toArray 76)).alloc (.cells replyZ.vals.toArray 48))
  rw [← HW1.out]
  go_wp2_with fail
  refine K.out.mono ?_
  rintro e w2 ⟨z, rfl, hf, he, hu, hb, hfr⟩
  replace bR := bR.stays hb
  have HR := Lib.hid (retReply22 (z := z) bR (below_then hB hb))
  have HF := Lib.hid (And.intro hf (And.intro he (And.intro hu hfr)))
  clear hf he hu hfr hb hB
  go_wp2_with (first | (refine wpList_store_whole (by rfl) 48 _ _ (by rfl) (w.heap.size + 1) z.vals _ bR (by rfl) (by rfl) (by rfl) (by kernel_rfl) (Reply.one _) ?_) | fail)
  refine ret_cells (w.heap.size + 1) 0 z.vals Tryz.results76 Tryz.underlying48 rfl (by kernel_rfl) rfl HR.out.1.range rfl ?_
  obtain ⟨hf, he, hu, hfr⟩ := HF.out
  have hs := HS.out
  exact ⟨z, rfl, hf, ⟨he.1, he.2.farCells (fun p hp => by have := hfr p (.inl hp); omega) _ _⟩, ⟨hu.1, hu.2.farCells (fun p hp => by have := hfr p (.inr hp); omega) _ _⟩, HR.out.2, fun p hp => by have := hfr p hp; omega⟩
/-- a method, as a value -/
def fnV (f : Nat) : Value := .func (.func f) #[] #[]
/-- the method of a procedure that reads -/
def fnOf (p : Int) : Option Nat :=
  if p = 0 ∨ p = 1 then some 70 else if p = 3 then some 71 else if p = 4 then some 72 else if p = 5 then some 73 else if p = 6 then some 74
  else if p = 16 then some 75 else if p = 17 then some 76 else if p = 18 then some 77 else if p = 19 then some 78 else if p = 20 then some 79 else if p = 21 then some 80 else none
def fnVal (p : Int) : Value := match fnOf p with
  | some f => fnV f
  | none => Value.nilFunc
set_option maxRecDepth 20000 in
set_option maxHeartbeats 1600000 in
theorem lookDoes_any (p : Int) (w : World) : Calls Tryz.prog 31 #[.int .i64 p] w fun e w' => e = .returned (fnVal p) ∧ w = w' := by
  by_cases h : p = 0 ∨ p = 1 ∨ p = 3 ∨ p = 4 ∨ p = 5 ∨ p = 6 ∨ p = 16 ∨ p = 17 ∨ p = 18 ∨ p = 19 ∨ p = 20 ∨ p = 21
  · rcases h with rfl | rfl | rfl | rfl | rfl | rfl | rfl | rfl | rfl | rfl | rfl | rfl
    all_goals
      go_enter Tryz.func31, Tryz.ntmps31
      go_wp2
      go_ret
      exact ⟨rfl, rfl⟩
  · obtain ⟨h0, h1, h3, h4, h5, h6, h16, h17, h18, h19, h20, h21⟩ : (p == 0) = false ∧ (p == 1) = false ∧ (p == 3) = false ∧ (p == 4) = false ∧ (p == 5) = false ∧ (p == 6) = false ∧ (p == 16) = false ∧ (p == 17) = false ∧ (p == 18) = false ∧ (p == 19) = false ∧ (p == 20) = false ∧ (p == 21) = false := by
      simp only [beq_eq_false_iff_ne, ne_eq]
      omega
    have HV : fnVal p = Value.nilFunc := by
      unfold fnVal
      rw [show fnOf p = none by unfold fnOf; simp only [beq_eq_false_iff_ne, ne_eq] at h0 h1 h3 h4 h5 h6 h16 h17 h18 h19 h20 h21; simp only [h0, h1, h3, h4, h5, h6, h16, h17, h18, h19, h20, h21, or_self, if_false]]
    rw [HV]
    clear h HV
    go_enter Tryz.func31, Tryz.ntmps31
    go_wp2
    go_ret
    exact ⟨rfl, rfl⟩
end Go.Proofs.YtgifmpobokaejaaGreatDoor

/-
  Layer 22, walks: each method by the number of its procedure. Conditions: a tree that is not too large.
-/
namespace Go.Proofs.YtgifmpobokaejaaGreatDoor
open Go.RowKit
open Go.RowKit
attribute [local go_sem ↓] Go.wp_at_zero Go.wp_at_succ
attribute [local go_sem] rowAt_ptr rowOf_drew rowOf_drewN rowOf_alloc_past rowOf_new

theorem eqlNilF (f : Nat) (w : World) : (binOp .eql 70 (fnV f) Value.nilFunc).run Tryz.prog w = .ok (.bool false) w := by kernel_rfl
theorem neqNilF (f : Nat) (w : World) : (binOp .neq 70 (fnV f) Value.nilFunc).run Tryz.prog w = .ok (.bool true) w := by kernel_rfl
theorem eqlNilN (w : World) : (binOp .eql 70 Value.nilFunc Value.nilFunc).run Tryz.prog w = .ok (.bool true) w := by kernel_rfl
theorem neqNilN (w : World) : (binOp .neq 70 Value.nilFunc Value.nilFunc).run Tryz.prog w = .ok (.bool false) w := by kernel_rfl
theorem callF : ∀ f ∈ [70, 71, 72, 73, 74, 75, 76, 77, 78, 79, 80], ∀ (args : Array Value) (w : World), (callFunc f args).run Tryz.prog w = .ok (.enter f args) w := by
  intro f hf args w
  simp only [List.mem_cons, List.not_mem_nil, or_false] at hf
  rcases hf with rfl | rfl | rfl | rfl | rfl | rfl | rfl | rfl | rfl | rfl | rfl
  all_goals kernel_rfl
/-- a tree in memory, with its entries, not too large -/
structure TreeH (w : World) (t : Tr) (ps : List (Nd × List Entry)) : Prop where
  ns : t.ns = ps.map (·.1)
  at_ : At w 15 t.na (t.ns.map Nd.vals)
  ents : Ents w ps
  few : small t.ns
  rows : ∀ p ∈ ps, p.2.length ≤ 70 ∧ ∀ x ∈ p.2, x.name.length ≤ 300
  gens : ∀ m ∈ t.ns, m.attr.gen ≤ 9223372036854775807
theorem TreeH.below {w w' : World} {t : Tr} {ps : List (Nd × List Entry)} (h : TreeH w t ps) (hb : Below w.heap.size w w') : TreeH w' t ps :=
  ⟨h.ns, h.at_.below hb, h.ents.below hb, h.few, h.rows, h.gens⟩
theorem TreeH.len {w : World} {t : Tr} {ps : List (Nd × List Entry)} (h : TreeH w t ps) : t.ns.length ≤ 9223372036854775807 := Nat.le_trans h.few.1 (by omega)
/-- what is told, but of the node -/
def askR (t : Tr) (u : Cred) (c : Call) (n : Nd) (es : List Entry) : RepD :=
  if c.proc = 3 then ⟨(lookupR t.ns u c n es).bare, [], []⟩ else if c.proc = 4 then ⟨({ replyZ with access := accP n.attr u.uid u.gid c.how } : Reply).bare, [], []⟩ else if c.proc = 5 then ⟨(linkR n).bare, [], []⟩ else if c.proc = 6 then ⟨(readR n u c).bare, [], []⟩
  else if c.proc = 16 then listR t.ns u c n es false else if c.proc = 17 then listR t.ns u c n es true else if c.proc = 18 then ⟨fldsZ, [], nums t u.uid⟩ else if c.proc = 19 then ⟨fldsZ, [], [256, 256, 1024, 1024]⟩ else if c.proc = 20 then ⟨fldsZ, [], [8, 24, 48]⟩ else if c.proc = 21 then ⟨(commitR n u).bare, [], []⟩ else ⟨fldsZ, [], []⟩
theorem plain_statR (s : Int) : (statR s).ea = none ∧ (statR s).en = 0 ∧ (statR s).ua = none ∧ (statR s).un = 0 := ⟨rfl, rfl, rfl, rfl⟩
theorem plain_lookupR (ns : List Nd) (u : Cred) (c : Call) (n : Nd) (es : List Entry) : (lookupR ns u c n es).ea = none ∧ (lookupR ns u c n es).en = 0 ∧ (lookupR ns u c n es).ua = none ∧ (lookupR ns u c n es).un = 0 := by
  unfold lookupR
  repeat' split
  all_goals exact ⟨rfl, rfl, rfl, rfl⟩
theorem plain_linkR (n : Nd) : (linkR n).ea = none ∧ (linkR n).en = 0 ∧ (linkR n).ua = none ∧ (linkR n).un = 0 := by
  unfold linkR
  split
  all_goals exact ⟨rfl, rfl, rfl, rfl⟩
theorem plain_readR (n : Nd) (u : Cred) (c : Call) : (readR n u c).ea = none ∧ (readR n u c).en = 0 ∧ (readR n u c).ua = none ∧ (readR n u c).un = 0 := by
  unfold readR
  split
  all_goals exact ⟨rfl, rfl, rfl, rfl⟩
theorem plain_commitR (n : Nd) (u : Cred) : (commitR n u).ea = none ∧ (commitR n u).en = 0 ∧ (commitR n u).ua = none ∧ (commitR n u).un = 0 := by
  unfold commitR
  split
  all_goals exact ⟨rfl, rfl, rfl, rfl⟩
theorem AskP.of {f : Nat} {a : Array Value} {r : Reply} {w : World} (h : r.ea = none ∧ r.en = 0 ∧ r.ua = none ∧ r.un = 0) (K : Calls Tryz.prog f a w fun e w' => e = .returned (.agg r.vals.toArray) ∧ Below w.heap.size w w') : Calls Tryz.prog f a w (AskP ⟨r.bare, [], []⟩ w) :=
  K.mono fun e w' ⟨he, hb⟩ => by
    subst he
    exact AskP.plain h hb
theorem dataL_len (n : Nd) : (dataL n).length = n.data.size := by unfold dataL; simp
theorem askAny (t : Tr) (ps : List (Nd × List Entry)) (u : Cred) (c : Call) (f : Nat) (p : Nd × List Entry) (hp : p ∈ ps) (w : World) (hT : TreeH w t ps) (hlim : t.lim.ok = true) (hc : c.good) (hL : LookLaid w) (hf : fnOf c.proc = some f) :
    Calls Tryz.prog f #[.agg (askV t u c p.1).toArray] w (AskP (askR t u c p.1 p.2) w) := by
  have hk : c.proc = 0 ∨ c.proc = 1 ∨ c.proc = 3 ∨ c.proc = 4 ∨ c.proc = 5 ∨ c.proc = 6 ∨ c.proc = 16 ∨ c.proc = 17 ∨ c.proc = 18 ∨ c.proc = 19 ∨ c.proc = 20 ∨ c.proc = 21 := by
    unfold fnOf at hf
    repeat' (split at hf)
    all_goals first | omega | cases hf
  have hn : p.1 ∈ t.ns := by rw [hT.ns]; exact List.mem_map_of_mem hp
  have hd : (dataL p.1).length ≤ 1048576 := by rw [dataL_len]; have := hT.few.2 _ hn; omega
  have hes := (hT.rows p hp).1
  have hen := (hT.ents p hp).1
  have hcc : -9223372036854775808 ≤ c.count ∧ c.count ≤ 9223372036854775807 := Go.bounds_i64 hc.2.2.2.2.2.2.1
  have hnm : c.name.length ≤ 9223372036854775807 := hc.2.2.1
  rcases hk with h | h | h | h | h | h | h | h | h | h | h | h
  all_goals
    unfold askR
    simp only [h] at hf ⊢
    have e := Option.some.inj hf
    clear hf
  · subst e
    exact AskP.of (r := replyZ) ⟨rfl, rfl, rfl, rfl⟩ (askNothing_any t u c p.1 w)
  · subst e
    exact AskP.of (r := replyZ) ⟨rfl, rfl, rfl, rfl⟩ (askNothing_any t u c p.1 w)
  · subst e
    exact AskP.of (plain_lookupR _ _ _ _ _) (askLookup_any t u c p.1 p.2 w hT.len hT.at_ hT.gens hen (by omega) (hT.ents p hp).2 hnm hL)
  · subst e
    exact AskP.of ⟨rfl, rfl, rfl, rfl⟩ (askAccess_any t u c p.1 w)
  · subst e
    exact AskP.of (plain_linkR _) (askReadlink_any t u c p.1 w)
  · subst e
    exact AskP.of (plain_readR _ _ _) (askRead_any t u c p.1 w hd hc)
  · subst e
    exact askReaddir_any t u c p.1 p.2 w hT.len hT.at_ hT.gens hen hes (hT.rows p hp).2 (hT.ents p hp).2 hcc hL
  · subst e
    exact askReaddirplus_any t u c p.1 p.2 w hT.len hT.at_ hT.gens hen hes (hT.rows p hp).2 (hT.ents p hp).2 hcc hL
  · subst e
    exact ask_fsstat_any t u c p.1 w hT.few hlim hT.at_
  · subst e
    exact ask_fsinfo_any t u c p.1 w
  · subst e
    exact ask_pathconf_any t u c p.1 w
  · subst e
    exact AskP.of (plain_commitR _ _) (askCommit_any t u c p.1 w)
end Go.Proofs.YtgifmpobokaejaaGreatDoor


/-
  Layer 22, walks: the program's Do. Conditions: a tree that is not too large.
-/
namespace Go.Proofs.YtgifmpobokaejaaGreatDoor
open Go.RowKit
open Go.RowKit
attribute [local go_sem ↓] Go.wp_at_zero Go.wp_at_succ
attribute [local go_sem] rowAt_ptr rowOf_drew rowOf_drewN rowOf_alloc_past rowOf_new
attribute [local go_sem ↓] ldAsk22 ldNode22 ldCred6 ldAttrR ldTree22 ldCall ldReply

theorem chain4_blks (w : World) (a b c d : List Value) (S T U V : TypeId) : Blk ((((w.alloc (.cells a.toArray S)).alloc (.cells b.toArray T)).alloc (.cells c.toArray U)).alloc (.cells d.toArray V)) w.heap.size S a ∧ Blk ((((w.alloc (.cells a.toArray S)).alloc (.cells b.toArray T)).alloc (.cells c.toArray U)).alloc (.cells d.toArray V)) (w.heap.size + 1) T b ∧
    Blk ((((w.alloc (.cells a.toArray S)).alloc (.cells b.toArray T)).alloc (.cells c.toArray U)).alloc (.cells d.toArray V)) (w.heap.size + 1 + 1) U c ∧ Blk ((((w.alloc (.cells a.toArray S)).alloc (.cells b.toArray T)).alloc (.cells c.toArray U)).alloc (.cells d.toArray V)) (w.heap.size + 1 + 1 + 1) V d ∧
    Below w.heap.size w ((((w.alloc (.cells a.toArray S)).alloc (.cells b.toArray T)).alloc (.cells c.toArray U)).alloc (.cells d.toArray V)) ∧ ((((w.alloc (.cells a.toArray S)).alloc (.cells b.toArray T)).alloc (.cells c.toArray U)).alloc (.cells d.toArray V)).heap.size = w.heap.size + 1 + 1 + 1 + 1 := by
  obtain ⟨h1, h2, h3, h4, h5⟩ := chain3_blks w a b c S T U
  generalize ((w.alloc (.cells a.toArray S)).alloc (.cells b.toArray T)).alloc (.cells c.toArray U) = w1 at *
  have h6 := Blk.new w1 V d
  rw [h5] at h6
  exact ⟨h1.alloc _, h2.alloc _, h3.alloc _, h6, h4.alloc h4.size _, by simp [h5]⟩
/-- four structs are built into one -/
@[irreducible] def catV (A B C D : Value) : Value := .agg (A.cells ++ (B.cells ++ (C.cells ++ D.cells)))
theorem catV_ask (t : Tr) (u : Cred) (c : Call) (n : Nd) : catV (.agg t.vals.toArray) (.agg u.vals.toArray) (.agg c.vals.toArray) (.agg n.vals.toArray) = .agg (askV t u c n).toArray := by
  unfold catV askV
  simp [Value.cells]
@[irreducible] def sizesV (A B C D : Value) : Prop := ∃ (t : Tr) (u : Cred) (c : Call) (n : Nd), A = .agg t.vals.toArray ∧ B = .agg u.vals.toArray ∧ C = .agg c.vals.toArray ∧ D = .agg n.vals.toArray
theorem sizesV_ask (t : Tr) (u : Cred) (c : Call) (n : Nd) : sizesV (.agg t.vals.toArray) (.agg u.vals.toArray) (.agg c.vals.toArray) (.agg n.vals.toArray) := by
  unfold sizesV
  exact ⟨t, u, c, n, rfl, rfl, rfl, rfl⟩
theorem runBuildAsk (t : Tr) (u : Cred) (c : Call) (n : Nd) (w : World) : (Instr.build 76 #[(0, .agg t.vals.toArray), (1, .agg u.vals.toArray), (2, .agg c.vals.toArray), (3, .agg n.vals.toArray)]).run Tryz.prog w = .ok (.agg (askV t u c n).toArray) w := by
  kernel_rfl
theorem exBuildAsk {ρ : Operand → Value} {w : World} {dst : Option Tmp} {ty : TypeId} {pos : String} {after : Array Edge} {g : Option (Nat × Bool)} {a b c d : Operand} (h : sizesV (ρ a) (ρ b) (ρ c) (ρ d)) :
    (execOp ρ ⟨dst, .build 76 #[(0, a), (1, b), (2, c), (3, d)], ty, pos, after, g⟩).run Tryz.prog w = .ok (.value (catV (ρ a) (ρ b) (ρ c) (ρ d))) w := by
  unfold sizesV at h
  obtain ⟨t, u, cl, n, h1, h2, h3, h4⟩ := h
  rw [h1, h2, h3, h4, catV_ask]
  unfold execOp
  simp only [List.map_toArray, List.map_cons, List.map_nil, h1, h2, h3, h4]
  rw [Sem.run_bind, runBuildAsk]
  rfl
/-- two structs are built into one -/
@[irreducible] def cat2V (A B : Value) : Value := .agg (A.cells ++ B.cells)
theorem cat2V_wcc (x : Bool) (y : Int) (p : Post) : cat2V (.agg #[.bool x, .int .i64 y]) (.agg p.vals.toArray) = .agg (Wcc.mk ⟨x, y⟩ p).vals.toArray := by
  unfold cat2V
  simp [Value.cells, Wcc.vals, Opt.vals]
@[irreducible] def sizes2V (A B : Value) : Prop := ∃ (x : Bool) (y : Int) (p : Post), A = .agg #[.bool x, .int .i64 y] ∧ B = .agg p.vals.toArray
theorem sizes2V_wcc (x : Bool) (y : Int) (p : Post) : sizes2V (.agg #[.bool x, .int .i64 y]) (.agg p.vals.toArray) := by
  unfold sizes2V
  exact ⟨x, y, p, rfl, rfl⟩
theorem runBuildWcc (x : Bool) (y : Int) (p : Post) (w : World) : (Instr.build 44 #[(0, .agg #[.bool x, .int .i64 y]), (1, .agg p.vals.toArray)]).run Tryz.prog w = .ok (.agg (Wcc.mk ⟨x, y⟩ p).vals.toArray) w := by
  kernel_rfl
theorem exBuildWcc {ρ : Operand → Value} {w : World} {dst : Option Tmp} {ty : TypeId} {pos : String} {after : Array Edge} {g : Option (Nat × Bool)} {a b : Operand} (h : sizes2V (ρ a) (ρ b)) :
    (execOp ρ ⟨dst, .build 44 #[(0, a), (1, b)], ty, pos, after, g⟩).run Tryz.prog w = .ok (.value (cat2V (ρ a) (ρ b))) w := by
  unfold sizes2V at h
  obtain ⟨x, y, p, h1, h2⟩ := h
  rw [h1, h2, cat2V_wcc]
  unfold execOp
  simp only [List.map_toArray, List.map_cons, List.map_nil, h1, h2]
  rw [Sem.run_bind, runBuildWcc]
  rfl
theorem stWcc22 {ρ : Operand → Value} {w : World} {dst : Option Tmp} {ty : TypeId} {pos : String} {after : Array Edge} {g : Option (Nat × Bool)} {x y : Operand} (hx : ptrAt (ρ x) = true) (hy : rowOk 13 (ρ y)) (ht : w.there (blkAt (ρ x)) (offAt (ρ x)) 13) :
    (execOp ρ ⟨dst, .store 44 x y, ty, pos, after, g⟩).run Tryz.prog w = .ok .skip (putsW w (blkAt (ρ x)) (offAt (ρ x)) (ρ y).cells.toList) := exStoreAt (by kernel_rfl) hx hy ht
/-- what is told of the node besides -/
def toldR (p : Int) (n : Nd) (r : RepD) : RepD :=
  if p = 3 then { r with f := { r.f with dir := postN n } } else if p = 21 then { r with f := { r.f with wcc := ⟨⟨true, n.attr.change⟩, postN n⟩ } } else { r with f := { r.f with obj := postN n } }
/-- results, and whether the procedure reads -/
def doR (t : Tr) (ps : List (Nd × List Entry)) (u : Cred) (c : Call) : RepD × Bool :=
  if c.proc = 0 then (⟨fldsZ, [], []⟩, true)
  else if fnOf c.proc = none then (⟨fldsZ, [], []⟩, false)
  else if (atP t.ns c.fh).2 ≠ 0 then (statD (atP t.ns c.fh).2, true)
  else (toldR c.proc (ps.getD (atP t.ns c.fh).1.toNat (ndZ, [])).1 (askR t u c (ps.getD (atP t.ns c.fh).1.toNat (ndZ, [])).1 (ps.getD (atP t.ns c.fh).1.toNat (ndZ, [])).2), true)
def DoP (d : RepD × Bool) (w : World) (e : Ending) (w' : World) : Prop :=
  ∃ z : Reply, e = .returned (.tuple #[.agg z.vals.toArray, .bool d.2]) ∧ z.bare = d.1.f ∧ (z.en = d.1.es.length ∧ At w' 15 z.ea (d.1.es.map Entry.vals)) ∧ (z.un = d.1.us.length ∧ At w' 1 z.ua (d.1.us.map int1)) ∧ Below w.heap.size w w'
end Go.Proofs.YtgifmpobokaejaaGreatDoor


/-
  Layer 22, walks: how the document tells that a tree is too large. Conditions: machine lengths.
-/
namespace Go.Proofs.YtgifmpobokaejaaGreatDoor
open Go.RowKit
open Go.RowKit
attribute [local go_sem ↓] Go.wp_at_zero Go.wp_at_succ
attribute [local go_sem] rowAt_ptr rowOf_drew rowOf_drewN rowOf_alloc_past rowOf_new
attribute [local go_sem ↓] ldTree22

/-- a tree is not too large -/
def FewT (ps : List (Nd × List Entry)) : Prop := small (ps.map (·.1)) ∧ ∀ p ∈ ps, p.2.length ≤ 70 ∧ ∀ x ∈ p.2, x.name.length ≤ 300
def SaysL (ps : List (Nd × List Entry)) (w : World) (e : Ending) (w' : World) : Prop := ∃ b, e = .returned (.bool b) ∧ (b = false → FewT ps) ∧ Below w.heap.size w w'
theorem SaysL.yes {ps : List (Nd × List Entry)} {w w' : World} (hb : Below w.heap.size w w') : SaysL ps w (.returned (.bool true)) w' := ⟨true, rfl, (fun h => by cases h), hb⟩
theorem SaysL.no {ps : List (Nd × List Entry)} {w w' : World} (h : FewT ps) (hb : Below w.heap.size w w') : SaysL ps w (.returned (.bool false)) w' := ⟨false, rfl, (fun _ => h), hb⟩
theorem le_max22 {n : Nat} (h : n ≤ maxLen) : n ≤ 9223372036854775807 := by
  unfold maxLen at h
  omega
set_option maxRecDepth 20000 in
set_option maxHeartbeats 1600000 in
theorem refLarge22_any (t : Tr) (ps : List (Nd × List Entry)) (w : World) (hns : t.ns = ps.map (·.1)) (hl : ps.length ≤ maxLen) (hA : At w 15 t.na (t.ns.map Nd.vals)) (hE : Ents w ps) (hg : ∀ p ∈ ps, p.1.good) :
    Calls Tryz.prog 7 #[t.val] w (SaysL ps w) := by
  have bT := Blk.new w 26 t.vals
  have hB : Below w.heap.size w (w.alloc (.cells t.vals.toArray 26)) := (Below.refl _ _).alloc (Nat.le_refl _) _
  obtain ⟨w1, hw1⟩ : ∃ V, V = w.alloc (.cells t.vals.toArray 26) := ⟨_, rfl⟩
  rw [← hw1] at bT hB
  have c5 : w1.cell? ⟨w.heap.size, 5, none⟩ = some (.slice t.na t.ns.length t.nc) := bT.cell 5
  have hlT := bT.lt
  have hl9 := le_max22 hl
  clear hl
  have hln : t.ns.length = ps.length := by rw [hns, List.length_map]
  have hgn : ∀ n ∈ t.ns, n.good := fun n hn => by
    rw [hns] at hn
    obtain ⟨p, hp, rfl⟩ := List.mem_map.1 hn
    exact hg p hp
  have KL := Lib.hid (large_any t.na t.nc t.ns w1 (by omega) (fun n hn => ⟨le_max22 (hgn n hn).2.1, le_max22 (hgn n hn).2.2.2.2.2⟩) (hA.below hB))
  have HW1 := Lib.hid hw1
  have HA := Lib.hid (hA.below hB)
  have HE := Lib.hid (hE.below hB)
  have HB := Lib.hid hB
  have HG := Lib.hid hg
  have HNS := Lib.hid hns
  have HLN := Lib.hid hln
  clear hw1 bT hB hA hE hg hgn hln hl9 hns
  unfold Tr.val
  go_enter Tryz.func7, Tryz.ntmps7
  go_upto_region 1 with fail
  change Code.wp _ _ _ _ (w.alloc (.cells t.vals.toArray 26))
  rw [← HW1.out]
  go_wp2_with fail
  refine KL.out.mono ?_
  rintro e w2 ⟨rfl, rfl⟩
  cases hlg : large t.ns
  case true =>
    go_wp2
    go_ret
    exact SaysL.yes HB.out
  have HS := Lib.hid (small_of hlg)
  clear hlg KL HW1
  have hl70 : t.ns.length ≤ 70 := HS.out.1
  go_wp2
  go_loopw [3] (fun i wr => ∃ k : Nat, k ≤ t.ns.length ∧ i = .int .i64 k ∧ (∀ p ∈ ps.take k, p.2.length ≤ 70 ∧ ∀ x ∈ p.2, x.name.length ≤ 300) ∧ Below w1.heap.size w1 wr) (fun i _ => t.ns.length - (intOf i).toNat)
  case atStart => exact ⟨0, Nat.zero_le _, rfl, (by simp), Below.refl _ _⟩
  case round =>
    obtain ⟨k, hk, rfl, hok, hb⟩ := hrel
    replace c5 := (hb.cell (p := ⟨w.heap.size, 5, none⟩) hlT).trans c5
    have HBr := Lib.hid (below_then HB.out hb)
    have hk0 : (0 : Int) ≤ (k : Int) := Int.natCast_nonneg _
    by_cases hlt : k < t.ns.length
    · have hk1 : (k : Int) < (t.ns.length : Int) := by omega
      have hiw : IntKind.i64.wrap ((k : Int) + 1) = ((k + 1 : Nat) : Int) := by rw [IntWalk.i64_in _ (by omega)]; omega
      have hkp : k < ps.length := by have := HLN.out; omega
      obtain ⟨b1, o1, hna, hb1, -, cc⟩ := rowCell8 Nd.len (by decide) (HA.out.below hb) hlt
      have c14 := cc 14 _ rfl
      have hnk : t.ns[k] = ps[k].1 := by simp only [HNS.out, List.getElem_map]
      have hmem := List.getElem_mem hkp
      have hen := (HE.out _ hmem).1
      have hgl := le_max22 (HG.out _ hmem).2.2.2.2.2
      rw [hnk, hen] at c14
      rw [hna] at c5
      have KN := Lib.hid (large20_any ps[k].1.ea ps[k].1.ec ps[k].2 wr (by omega) ((HE.out _ hmem).2.below hb))
      have HNX := Lib.hid (fun (h : ps[k].2.length ≤ 70 ∧ ∀ x ∈ ps[k].2, x.name.length ≤ 300) => (show ∀ q ∈ ps.take (k + 1), q.2.length ≤ 70 ∧ ∀ x ∈ q.2, x.name.length ≤ 300 by
        intro q hq
        rw [take_next _ _ hkp] at hq
        rcases List.mem_append.1 hq with hq | hq
        · exact hok q hq
        · simp only [List.mem_singleton] at hq
          subst hq
          exact h))
      have HBb := Lib.hid hb
      generalize ps[k] = p at *
      clear cc hok hb hna hnk hmem hen hgl
      go_wp2_with fail
      refine KN.out.mono ?_
      rintro e w4 ⟨b, rfl, hf, hb4⟩
      have HB4 := Lib.hid (HBb.out.trans (hb4.mono HBb.out.size))
      have HF4 := Lib.hid (below_then HBr.out hb4)
      clear hb4
      cases b
      case true =>
        go_wp2
        go_ret
        exact SaysL.yes HF4.out
      have HN := Lib.hid (HNX.out (hf rfl))
      clear hf
      go_wp2
      go_roundw
      case rel => first
        | exact ⟨k + 1, by omega, by first | rfl | go_num, HN.out, HB4.out⟩
        | (repeat apply Exists.intro
           refine ⟨?_, rfl⟩
           exact ⟨k + 1, by omega, by first | rfl | go_num, HN.out, HB4.out⟩)
      case measure => simp [intOf]; omega
    · obtain rfl : k = t.ns.length := by omega
      have hlm : ¬ (t.ns.length : Int) < (t.ns.length : Int) := by omega
      have HY := Lib.hid (show FewT ps from ⟨by rw [← HNS.out]; exact HS.out, by rw [List.take_of_length_le (by have := HLN.out; omega)] at hok; exact hok⟩)
      clear hok hb
      go_wp2
      go_ret
      exact SaysL.no HY.out HBr.out
end Go.Proofs.YtgifmpobokaejaaGreatDoor


/-
  Layer 22: a tree that came in, with what the laws know of it. No condition.
-/
namespace Go.Proofs.YtgifmpobokaejaaGreatDoor
open Go.RowKit

/-- a tree that came in, with what the laws know of it -/
structure OpenT (w : World) (t : Tr) (ps : List (Nd × List Entry)) : Prop where
  ns : t.ns = ps.map (·.1)
  len : ps.length ≤ maxLen
  at_ : At w 15 t.na (t.ns.map Nd.vals)
  ents : Ents w ps
  good : ∀ p ∈ ps, p.1.good
theorem OpenT.below {w w' : World} {t : Tr} {ps : List (Nd × List Entry)} (h : OpenT w t ps) (hb : Below w.heap.size w w') : OpenT w' t ps := ⟨h.ns, h.len, h.at_.below hb, h.ents.below hb, h.good⟩
theorem OpenT.tree {w : World} {t : Tr} {ps : List (Nd × List Entry)} (h : OpenT w t ps) (hf : FewT ps) : TreeH w t ps :=
  ⟨h.ns, h.at_, h.ents, by rw [h.ns]; exact hf.1, hf.2, fun m hm => by
    rw [h.ns] at hm
    obtain ⟨p, hp, rfl⟩ := List.mem_map.1 hm
    exact (Go.bounds_i64 (h.good p hp).1.2.2.2.2.2.2.2.1).2⟩
end Go.Proofs.YtgifmpobokaejaaGreatDoor


/-
  Layer 22, plain: how many entries and numbers a tree's results tell. No condition.
-/
namespace Go.Proofs.YtgifmpobokaejaaGreatDoor
open Go.RowKit

theorem pageF_len22 (l : List Entry) (ck count more : Int) : (pageF l ck count more).1.length ≤ l.length := by
  unfold pageF
  split
  · exact Nat.zero_le _
  · rw [List.length_take]
    have h : (behind ck l).length ≤ l.length := List.length_filter_le _ _
    omega
theorem toldR_rows (p : Int) (n : Nd) (r : RepD) : (toldR p n r).es = r.es ∧ (toldR p n r).us = r.us := by
  unfold toldR
  repeat' split
  all_goals exact ⟨rfl, rfl⟩
theorem listR_rows (ns : List Nd) (u : Cred) (c : Call) (n : Nd) (es : List Entry) (plus : Bool) : (listR ns u c n es plus).es.length ≤ es.length ∧ (listR ns u c n es plus).us.length ≤ 6 := by
  unfold listR statD
  repeat' split
  all_goals first
    | exact ⟨Nat.zero_le _, Nat.zero_le _⟩
    | (refine ⟨?_, Nat.zero_le _⟩; show List.length (List.map _ _) ≤ _; rw [List.length_map]; exact pageF_len22 _ _ _ _)
    | (refine ⟨?_, Nat.zero_le _⟩; exact pageF_len22 _ _ _ _)
theorem askR_rows (t : Tr) (u : Cred) (c : Call) (n : Nd) (es : List Entry) : (askR t u c n es).es.length ≤ es.length ∧ (askR t u c n es).us.length ≤ 6 := by
  unfold askR
  repeat' split
  all_goals first
    | exact ⟨Nat.zero_le _, Nat.zero_le _⟩
    | exact listR_rows _ _ _ _ _ _
    | (refine ⟨Nat.zero_le _, ?_⟩; decide)
    | (refine ⟨Nat.zero_le _, ?_⟩; show List.length (nums _ _) ≤ 6; exact Nat.le_refl 6)
theorem doR_rows {t : Tr} {ps : List (Nd × List Entry)} {u : Cred} {c : Call} (h : ∀ p ∈ ps, p.2.length ≤ 70) : (doR t ps u c).1.es.length ≤ 70 ∧ (doR t ps u c).1.us.length ≤ 6 := by
  unfold doR statD
  repeat' split
  all_goals first
    | exact ⟨Nat.zero_le _, Nat.zero_le _⟩
    | skip
  rw [(toldR_rows _ _ _).1, (toldR_rows _ _ _).2]
  refine ⟨Nat.le_trans (askR_rows _ _ _ _ _).1 ?_, (askR_rows _ _ _ _ _).2⟩
  generalize (atP t.ns c.fh).1.toNat = k
  rw [List.getD_eq_getElem?_getD]
  cases hk : ps[k]? with
  | none => exact Nat.zero_le _
  | some p => exact h p (List.mem_of_getElem? hk)
theorem there_of {d : RepD × Bool} {w' : World} {z : Reply} (he : z.en = d.1.es.length ∧ At w' 15 z.ea (d.1.es.map Entry.vals)) (hu : z.un = d.1.us.length ∧ At w' 1 z.ua (d.1.us.map int1)) (hl : d.1.es.length ≤ 70 ∧ d.1.us.length ≤ 6) : RepL.There ⟨z, d.1.es, d.1.us⟩ w' :=
  ⟨he.1, hu.1, Nat.le_trans hl.1 (by omega), Nat.le_trans hl.2 (by omega), he.2, hu.2⟩
end Go.Proofs.YtgifmpobokaejaaGreatDoor


/-
  Layer 22, plain: whether a directory comes to the root, as the program asks it and as the document does. Condition: the root is there.
-/
namespace Go.Proofs.YtgifmpobokaejaaGreatDoor

/-- the program's loop -/
def comesP (ns : List Nd) : Nat → Nd → Bool
  | 0, n => n.attr.gen == 1
  | k + 1, n => if n.attr.gen = 1 then true else if placeOf ns n.parent < 0 then false else comesP ns k (nodeAt ns (placeOf ns n.parent))
/-- the document's -/
def comesR (ns : List Nd) : Nat → Int → Bool
  | 0, a => a == 1
  | k + 1, a => if a = 1 then true else if placeOf ns a < 0 then false else comesR ns k (nodeAt ns (placeOf ns a)).parent
theorem comes_step {ns : List Nd} (hr : ¬ placeOf ns 1 < 0) : ∀ (k : Nat) (n : Nd), n.attr.gen ≠ 1 → comesP ns (k + 1) n = comesR ns k n.parent
  | 0, n, hn => by
    unfold comesP comesR
    rw [if_neg hn]
    by_cases hp : placeOf ns n.parent < 0
    · rw [if_pos hp]
      have h1 : n.parent ≠ 1 := fun h => hr (h ▸ hp)
      exact (beq_false_of_ne h1).symm
    · rw [if_neg hp]
      obtain ⟨k, -, hk, h1, h2⟩ := placeOf_at hp
      unfold comesP
      rw [h1, h2]
  | k + 1, n, hn => by
    rw [comesP, comesR, if_neg hn]
    by_cases hp : placeOf ns n.parent < 0
    · have h1 : n.parent ≠ 1 := fun h => hr (h ▸ hp)
      rw [if_pos hp, if_neg h1, if_pos hp]
    · rw [if_neg hp]
      obtain ⟨j, -, hj, h1, h2⟩ := placeOf_at hp
      by_cases h3 : n.parent = 1
      · rw [if_pos h3, comesP, h1, if_pos (h2.trans h3)]
      · rw [if_neg h3, if_neg hp]
        exact comes_step hr k _ (by rw [h1, h2]; exact h3)
theorem comes_more {ns : List Nd} : ∀ (k : Nat) (a : Int), comesR ns k a = true → comesR ns (k + 1) a = true
  | 0, a, h => by
    unfold comesR at h ⊢
    rw [if_pos (by simpa using h)]
  | k + 1, a, h => by
    rw [comesR] at h ⊢
    by_cases h1 : a = 1
    · rw [if_pos h1]
    · rw [if_neg h1] at h ⊢
      by_cases h2 : placeOf ns a < 0
      · rw [if_pos h2] at h; cases h
      · rw [if_neg h2] at h ⊢
        exact comes_more k _ h
theorem pigeon22 : ∀ (m : Nat) (f : Nat → Nat), (∀ i, i ≤ m → f i < m) → ∃ a b, a < b ∧ b ≤ m ∧ f a = f b
  | 0, f, h => absurd (h 0 (Nat.le_refl _)) (Nat.not_lt_zero _)
  | m + 1, f, h => by
    by_cases hx : ∃ i, i ≤ m ∧ f i = f (m + 1)
    · obtain ⟨i, hi, he⟩ := hx
      exact ⟨i, m + 1, by omega, Nat.le_refl _, he⟩
    · have hno : ∀ i, i ≤ m → f i ≠ f (m + 1) := fun i hi he => hx ⟨i, hi, he⟩
      have hv := h (m + 1) (Nat.le_refl _)
      obtain ⟨a, b, hab, hbm, he⟩ := pigeon22 m (fun i => if f i = m then f (m + 1) else f i) (fun i hi => by
        have h1 := h i (by omega)
        have h2 := hno i hi
        show (if f i = m then f (m + 1) else f i) < m
        split <;> omega)
      refine ⟨a, b, hab, by omega, ?_⟩
      have ha := hno a (by omega)
      have hb := hno b hbm
      change (if f a = m then f (m + 1) else f a) = (if f b = m then f (m + 1) else f b) at he
      split at he <;> split at he <;> omega
/-- the nodes' numbers that are come by -/
def atS (ns : List Nd) (a : Int) : Nat → Int
  | 0 => a
  | i + 1 => (nodeAt ns (placeOf ns (atS ns a i))).parent
theorem atS_shift (ns : List Nd) (a : Int) : ∀ i, atS ns a (i + 1) = atS ns (nodeAt ns (placeOf ns a)).parent i
  | 0 => rfl
  | i + 1 => by rw [atS, atS_shift ns a i, atS]
theorem comesR_path {ns : List Nd} : ∀ (k : Nat) (a : Int), comesR ns k a = true → ∃ j, j ≤ k ∧ atS ns a j = 1 ∧ ∀ i, i < j → atS ns a i ≠ 1 ∧ ¬ placeOf ns (atS ns a i) < 0
  | 0, a, h => ⟨0, Nat.le_refl _, (by show a = 1; simpa [comesR] using h), fun i hi => absurd hi (Nat.not_lt_zero _)⟩
  | k + 1, a, h => by
    rw [comesR] at h
    by_cases h1 : a = 1
    · exact ⟨0, Nat.zero_le _, h1, fun i hi => absurd hi (Nat.not_lt_zero _)⟩
    · rw [if_neg h1] at h
      by_cases h2 : placeOf ns a < 0
      · rw [if_pos h2] at h; cases h
      · rw [if_neg h2] at h
        obtain ⟨j, hj, he, hall⟩ := comesR_path k _ h
        refine ⟨j + 1, by omega, by rw [atS_shift]; exact he, fun i hi => ?_⟩
        cases i with
        | zero => exact ⟨h1, h2⟩
        | succ i => rw [atS_shift]; exact hall i (by omega)
theorem comesR_of {ns : List Nd} : ∀ (k j : Nat) (a : Int), j ≤ k → atS ns a j = 1 → (∀ i, i < j → ¬ placeOf ns (atS ns a i) < 0) → comesR ns k a = true
  | 0, j, a, hj, he, _ => by
    obtain rfl : j = 0 := by omega
    have h : a = 1 := he
    simp [comesR, h]
  | k + 1, j, a, hj, he, hall => by
    rw [comesR]
    by_cases h1 : a = 1
    · rw [if_pos h1]
    · cases j with
      | zero => exact absurd he h1
      | succ j =>
        have h2 : ¬ placeOf ns a < 0 := hall 0 (by omega)
        rw [if_neg h1, if_neg h2]
        refine comesR_of k j _ (by omega) (by rw [← atS_shift]; exact he) (fun i hi => ?_)
        rw [← atS_shift]
        exact hall (i + 1) (by omega)
theorem comesR_less {ns : List Nd} {n : Nd} (hn : n ∈ ns) (h : comesR ns ns.length n.parent = true) : comesR ns (ns.length - 1) n.parent = true := by
  obtain ⟨j, hj, he, hall⟩ := comesR_path _ _ h
  by_cases hl : j ≤ ns.length - 1
  · exact comesR_of _ j _ hl he (fun i hi => (hall i hi).2)
  have hjl : j = ns.length := by omega
  subst hjl
  obtain ⟨i0, hi0, hn0⟩ := List.getElem_of_mem hn
  have hP : ∀ i, i ≤ ns.length → (if i = 0 then i0 else (placeOf ns (atS ns n.parent (i - 1))).toNat) < ns.length ∧ (nodeAt ns ((if i = 0 then i0 else (placeOf ns (atS ns n.parent (i - 1))).toNat : Nat) : Int)).parent = atS ns n.parent i := by
    intro i hi
    cases i with
    | zero =>
      refine ⟨hi0, ?_⟩
      simp only [if_true]
      rw [show nodeAt ns ((i0 : Nat) : Int) = n by simp [nodeAt, List.getD, List.getElem?_eq_getElem hi0, hn0]]
      rfl
    | succ i =>
      obtain ⟨k, hk, hk2, -, -⟩ := placeOf_at (hall i (by omega)).2
      simp only [Nat.add_sub_cancel, Nat.succ_ne_zero, if_false]
      rw [hk, Int.toNat_natCast]
      refine ⟨hk2, ?_⟩
      rw [atS, hk]
  obtain ⟨a, b, hab, hb, hf⟩ := pigeon22 ns.length (fun i => if i = 0 then i0 else (placeOf ns (atS ns n.parent (i - 1))).toNat) (fun i hi => (hP i hi).1)
  change (if a = 0 then i0 else (placeOf ns (atS ns n.parent (a - 1))).toNat) = (if b = 0 then i0 else (placeOf ns (atS ns n.parent (b - 1))).toNat) at hf
  have e0 : atS ns n.parent a = atS ns n.parent b := by rw [← (hP a (by omega)).2, ← (hP b hb).2, hf]
  have e : ∀ t, atS ns n.parent (a + t) = atS ns n.parent (b + t) := fun t => by
    induction t with
    | zero => exact e0
    | succ t ih => rw [← Nat.add_assoc, ← Nat.add_assoc, atS, atS, ih]
  have h1 := e (ns.length - b)
  rw [show b + (ns.length - b) = ns.length by omega, he] at h1
  exact absurd h1 (hall _ (by omega)).1
/-- both loops answer alike -/
theorem comes_same {ns : List Nd} {n : Nd} (hr : ¬ placeOf ns 1 < 0) (hn : n ∈ ns) (hg : n.attr.gen ≠ 1) : comesP ns ns.length n = comesR ns ns.length n.parent := by
  have hpos : 0 < ns.length := List.length_pos_of_mem hn
  obtain ⟨k, hk⟩ : ∃ k, ns.length = k + 1 := ⟨ns.length - 1, by omega⟩
  have h1 : comesP ns ns.length n = comesR ns (ns.length - 1) n.parent := by
    rw [hk, Nat.add_sub_cancel]
    exact comes_step hr k n hg
  rw [h1]
  cases h : comesR ns (ns.length - 1) n.parent with
  | true =>
    have := comes_more _ _ h
    rw [show ns.length - 1 + 1 = ns.length by omega] at this
    exact this.symm
  | false =>
    cases h2 : comesR ns ns.length n.parent with
    | false => rfl
    | true => exact h.symm.trans (comesR_less hn h2)
end Go.Proofs.YtgifmpobokaejaaGreatDoor


/-
  Layer 22: how a tree and a caller that came in are opened. No condition.
-/
namespace Go.Proofs.YtgifmpobokaejaaGreatDoor
open Go.ChangeShapes Go.WideShapes Go.ChangeAt Go.RowKit Go.Deep

/-- a tree that came in, as the laws take it -/
structure TreeE where
  t : Tr
  ps : List (Nd × List Entry)
def TreeE.vals (x : TreeE) : List Value := x.t.vals
section
variable {H : Type} {enc : TypeId × Value → H} {w : World} {base : Nat} {spare : Nat → Bool} {held : Bool} {fuel : Nat} {cs : List Value} {x : DataW H × List MemPlace}
theorem open_Cred22 (h : DataW.trod enc Tryz.prog w base spare held fuel 28 cs = some x) : ∃ a : Cred, cs = a.vals ∧ (Lit.int .i64 a.uid).wf = true ∧ (Lit.int .i64 a.gid).wf = true := by
  have hl : cs.length = 4 := (len_of Tryz.underlying28 h).trans (by kernel_rfl)
  obtain ⟨z0, h0, g0⟩ := int_field Tryz.underlying28 h 0 0 _ rfl (e := 3) rfl rfl (by kernel_rfl) Tryz.underlying3
  obtain ⟨z1, h1, g1⟩ := int_field Tryz.underlying28 h 1 1 _ rfl (e := 3) rfl rfl (by kernel_rfl) Tryz.underlying3
  obtain ⟨z2, h2, g2⟩ := int_field Tryz.underlying28 h 2 2 _ rfl (e := 3) rfl rfl (by kernel_rfl) Tryz.underlying3
  obtain ⟨z3, h3, g3⟩ := int_field Tryz.underlying28 h 3 3 _ rfl (e := 3) rfl rfl (by kernel_rfl) Tryz.underlying3
  have hend : cs.drop 4 = [] := List.drop_of_length_le (by omega)
  have e : cs = cs.drop 0 := rfl
  simp only [Nat.reduceAdd] at h0 h1 h2 h3
  refine ⟨⟨z0, z1, z2, z3⟩, e.trans ?_, g2, g3⟩
  rw [h0, h1, h2, h3, hend]
  rfl
theorem open_treeE (hlt : ∀ p ∈ x.2, p.block < w.heap.size) (h : DataW.trod enc Tryz.prog w base spare held fuel 26 cs = some x) : ∃ a : TreeE, cs = a.vals ∧ (∀ p ∈ a.ps, ∀ e ∈ p.2, e.good) ∧ OpenT w a.t a.ps := by
  obtain ⟨t, ps, rfl, h1, h2, h3, h4, h5⟩ := open_deep hlt h
  exact ⟨⟨t, ps⟩, rfl, fun p hp => (h5 p hp).2, ⟨h1, h2, h3, h4, fun p hp => (h5 p hp).1⟩⟩
end
end Go.Proofs.YtgifmpobokaejaaGreatDoor
