/-
  Layer 22, walks: a directory's two lists; what a procedure does. Conditions: rows of the sizes that a tree has.
-/
import Derived.Test.YtgifmpobokaejaaGreatDoorM33
namespace Go.Proofs.YtgifmpobokaejaaGreatDoor
open Go.RowKit
open Go.RowKit
attribute [local go_sem ↓] Go.wp_at_zero Go.wp_at_succ
attribute [local go_sem] rowAt_ptr rowOf_drew rowOf_drewN rowOf_alloc_past rowOf_new
attribute [local go_sem ↓] ldAsk22 ldNode22 ldCred6 ldAttrR ldTree22 ldCall

theorem At.farCells {W : World} {sz g : Nat} {A : Option Addr} {rows : List (List Value)} (h : At W sz A rows) (hg : ∀ p, A = some p → g < p.block) (o : Nat) (cs : List Value) : At (W.setCells g o cs) sz A rows :=
  h.touch (F := fun k => k = g) (Touch.setCells (F := fun k => k = g) (g := g) (.inl rfl) cs o W (Touch.refl _ _)) (fun b off hA hf => by have := hg _ hA; simp only at this; omega)
theorem AskP.plain {r : Reply} {w w' : World} (h : r.ea = none ∧ r.en = 0 ∧ r.ua = none ∧ r.un = 0) (hB : Below w.heap.size w w') : AskP ⟨r.bare, [], []⟩ w (.returned (.agg r.vals.toArray)) w' :=
  ⟨r, rfl, rfl, ⟨h.2.1, At.nil⟩, ⟨h.2.2.2, At.nil⟩, hB, fun p hp => by rcases hp with hp | hp <;> simp [h.1, h.2.2.1] at hp⟩
set_option maxRecDepth 20000 in
set_option maxHeartbeats 1600000 in
theorem askReaddir_any (t : Tr) (u : Cred) (c : Call) (n : Nd) (es : List Entry) (w : World) (hl : t.ns.length ≤ 9223372036854775807) (hA : At w 15 t.na (t.ns.map Nd.vals)) (hgen : ∀ m ∈ t.ns, m.attr.gen ≤ 9223372036854775807)
    (hen : n.en = es.length) (hes : es.length ≤ 70) (hn : ∀ x ∈ es, x.name.length ≤ 300) (hE : At w 15 n.ea (es.map Entry.vals)) (hcc : -9223372036854775808 ≤ c.count ∧ c.count ≤ 9223372036854775807) (hL : LookLaid w) :
    Calls Tryz.prog 75 #[.agg (askV t u c n).toArray] w (AskP (listR t.ns u c n es false) w) := by
  obtain ⟨bA, bR, hB, hs⟩ := chain2_blks w (askV t u c n) replyZ.vals 76 48
  obtain ⟨w1, hw1⟩ : ∃ V, V = (w.alloc (.cells (askV t u c n).toArray 76)).alloc (.cells replyZ.vals.toArray 48) := ⟨_, rfl⟩
  rw [← hw1] at bA bR hB hs
  have r0 : rowOf w1 w.heap.size 0 49 = some (askV t u c n).toArray := by
    have := bA.row 0 49 (by rw [askV_len]; omega)
    rwa [show ((askV t u c n).drop 0).take 49 = askV t u c n from rfl] at this
  have HW1 := Lib.hid hw1
  have HS := Lib.hid hs
  have K := Lib.hid (askList_any t u c n es false w1 hl (hA.below hB) hgen hen hes hn (hE.below hB) hcc (hL.below hB))
  generalize listR t.ns u c n es false = lr at *
  generalize askV t u c n = av at *
  clear hw1 bA hs hA hE hL hgen hn hes
  go_enter Tryz.func75, Tryz.ntmps75
  go_upto_region 1 with fail
  change Code.wp _ _ _ _ ((w.alloc (.cells av.toArray 76)).alloc (.cells replyZ.vals.toArray 48))
  rw [← HW1.out]
  go_wp2_with fail
  refine K.out.mono ?_
  rintro e w2 ⟨z, rfl, hf, he, hu, hb, hfr⟩
  replace bR := bR.stays hb
  have HR := Lib.hid (retReply22 (z := z) bR (below_then hB hb))
  have HF := Lib.hid (And.intro hf (And.intro he (And.intro hu hfr)))
  clear hf he hu hfr hb hB
  go_wp2_with (first | (refine wpList_store_whole (by rfl) 48 _ _ (by rfl) (w.heap.size + 1) z.vals _ bR (by rfl) (by rfl) (by rfl) (by kernel_rfl) (Reply.one _) ?_) | fail)
  refine ret_cells (w.heap.size + 1) 0 z.vals Tryz.results75 Tryz.underlying48 rfl (by kernel_rfl) rfl HR.out.1.range rfl ?_
  obtain ⟨hf, he, hu, hfr⟩ := HF.out
  have hs := HS.out
  exact ⟨z, rfl, hf, ⟨he.1, he.2.farCells (fun p hp => by have := hfr p (.inl hp); omega) _ _⟩, ⟨hu.1, hu.2.farCells (fun p hp => by have := hfr p (.inr hp); omega) _ _⟩, HR.out.2, fun p hp => by have := hfr p hp; omega⟩
set_option maxRecDepth 20000 in
set_option maxHeartbeats 1600000 in
theorem askReaddirplus_any (t : Tr) (u : Cred) (c : Call) (n : Nd) (es : List Entry) (w : World) (hl : t.ns.length ≤ 9223372036854775807) (hA : At w 15 t.na (t.ns.map Nd.vals)) (hgen : ∀ m ∈ t.ns, m.attr.gen ≤ 9223372036854775807)
    (hen : n.en = es.length) (hes : es.length ≤ 70) (hn : ∀ x ∈ es, x.name.length ≤ 300) (hE : At w 15 n.ea (es.map Entry.vals)) (hcc : -9223372036854775808 ≤ c.count ∧ c.count ≤ 9223372036854775807) (hL : LookLaid w) :
    Calls Tryz.prog 76 #[.agg (askV t u c n).toArray] w (AskP (listR t.ns u c n es true) w) := by
  obtain ⟨bA, bR, hB, hs⟩ := chain2_blks w (askV t u c n) replyZ.vals 76 48
  obtain ⟨w1, hw1⟩ : ∃ V, V = (w.alloc (.cells (askV t u c n).toArray 76)).alloc (.cells replyZ.vals.toArray 48) := ⟨_, rfl⟩
  rw [← hw1] at bA bR hB hs
  have r0 : rowOf w1 w.heap.size 0 49 = some (askV t u c n).toArray := by
    have := bA.row 0 49 (by rw [askV_len]; omega)
    rwa [show ((askV t u c n).drop 0).take 49 = askV t u c n from rfl] at this
  have HW1 := Lib.hid hw1
  have HS := Lib.hid hs
  have K := Lib.hid (askList_any t u c n es true w1 hl (hA.below hB) hgen hen hes hn (hE.below hB) hcc (hL.below hB))
  generalize listR t.ns u c n es true = lr at *
  generalize askV t u c n = av at *
  clear hw1 bA hs hA hE hL hgen hn hes
  go_enter Tryz.func76, Tryz.ntmps76
  go_upto_region 1 with fail
  change Code.wp _ _ _ _ ((w.alloc (.cells av.toArray 76)).alloc (.cells replyZ.vals.toArray 48))
  rw [← HW1.out]
  go_wp2_with fail
  refine K.out.mono ?_
  rintro e w2 ⟨z, rfl, hf, he, hu, hb, hfr⟩
  replace bR := bR.stays hb
  have HR := Lib.hid (retReply22 (z := z) bR (below_then hB hb))
  have HF := Lib.hid (And.intro hf (And.intro he (And.intro hu hfr)))
  clear hf he hu hfr hb hB
  go_wp2_with (first | (refine wpList_store_whole (by rfl) 48 _ _ (by rfl) (w.heap.size + 1) z.vals _ bR (by rfl) (by rfl) (by rfl) (by kernel_rfl) (Reply.one _) ?_) | fail)
  refine ret_cells (w.heap.size + 1) 0 z.vals Tryz.results76 Tryz.underlying48 rfl (by kernel_rfl) rfl HR.out.1.range rfl ?_
  obtain ⟨hf, he, hu, hfr⟩ := HF.out
  have hs := HS.out
  exact ⟨z, rfl, hf, ⟨he.1, he.2.farCells (fun p hp => by have := hfr p (.inl hp); omega) _ _⟩, ⟨hu.1, hu.2.farCells (fun p hp => by have := hfr p (.inr hp); omega) _ _⟩, HR.out.2, fun p hp => by have := hfr p hp; omega⟩
/-- a method, as a value -/
def fnV (f : Nat) : Value := .func (.func f) #[] #[]
/-- the method of a procedure that reads -/
def fnOf (p : Int) : Option Nat :=
  if p = 0 ∨ p = 1 then some 70 else if p = 3 then some 71 else if p = 4 then some 72 else if p = 5 then some 73 else if p = 6 then some 74
  else if p = 16 then some 75 else if p = 17 then some 76 else if p = 18 then some 77 else if p = 19 then some 78 else if p = 20 then some 79 else if p = 21 then some 80 else none
def fnVal (p : Int) : Value := match fnOf p with
  | some f => fnV f
  | none => Value.nilFunc
set_option maxRecDepth 20000 in
set_option maxHeartbeats 1600000 in
theorem lookDoes_any (p : Int) (w : World) : Calls Tryz.prog 31 #[.int .i64 p] w fun e w' => e = .returned (fnVal p) ∧ w = w' := by
  by_cases h : p = 0 ∨ p = 1 ∨ p = 3 ∨ p = 4 ∨ p = 5 ∨ p = 6 ∨ p = 16 ∨ p = 17 ∨ p = 18 ∨ p = 19 ∨ p = 20 ∨ p = 21
  · rcases h with rfl | rfl | rfl | rfl | rfl | rfl | rfl | rfl | rfl | rfl | rfl | rfl
    all_goals
      go_enter Tryz.func31, Tryz.ntmps31
      go_wp2
      go_ret
      exact ⟨rfl, rfl⟩
  · obtain ⟨h0, h1, h3, h4, h5, h6, h16, h17, h18, h19, h20, h21⟩ : (p == 0) = false ∧ (p == 1) = false ∧ (p == 3) = false ∧ (p == 4) = false ∧ (p == 5) = false ∧ (p == 6) = false ∧ (p == 16) = false ∧ (p == 17) = false ∧ (p == 18) = false ∧ (p == 19) = false ∧ (p == 20) = false ∧ (p == 21) = false := by
      simp only [beq_eq_false_iff_ne, ne_eq]
      omega
    have HV : fnVal p = Value.nilFunc := by
      unfold fnVal
      rw [show fnOf p = none by unfold fnOf; simp only [beq_eq_false_iff_ne, ne_eq] at h0 h1 h3 h4 h5 h6 h16 h17 h18 h19 h20 h21; simp only [h0, h1, h3, h4, h5, h6, h16, h17, h18, h19, h20, h21, or_self, if_false]]
    rw [HV]
    clear h HV
    go_enter Tryz.func31, Tryz.ntmps31
    go_wp2
    go_ret
    exact ⟨rfl, rfl⟩
end Go.Proofs.YtgifmpobokaejaaGreatDoor
