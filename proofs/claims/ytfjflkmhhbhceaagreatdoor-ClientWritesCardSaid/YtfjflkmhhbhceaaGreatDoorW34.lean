/-
  Layer 33, walks: what is kept while a client's own block changes; what 'plan' and its parts give. No condition.
-/
import Derived.Test.YtfjflkmhhbhceaaGreatDoorW33
import Derived.Test.YtfjflkmhhbhceaaGreatDoorW29
import Derived.Test.YtfjflkmhhbhceaaGreatDoorW22
namespace Go.Proofs.YtfjflkmhhbhceaaGreatDoor
open Go.RowKit
/-- all blocks of w but g are as they were -/
abbrev TStb (g : Nat) (w W : World) : Prop := (∀ b o, b < w.heap.size → b ≠ g → W.cell? ⟨b, o, none⟩ = w.cell? ⟨b, o, none⟩) ∧ (∀ b o n, b < w.heap.size → b ≠ g → rowOf W b o n = rowOf w b o n) ∧ Touch (fun k => k = g) w W
theorem TStb.of {g : Nat} {w W : World} (h : Touch (fun k => k = g) w W) : TStb g w W := ⟨fun b o hb hn => h.cell (p := ⟨b, o, none⟩) hb hn, fun _ o n hb hn => h.row hb hn o n, h⟩
theorem TStb.start {g : Nat} {w : World} : TStb g w w.drew := TStb.of (Touch.refl _ _).drew
theorem TStb.alloc {g : Nat} {w W : World} (h : TStb g w W) (o : Obj) : TStb g w (W.alloc o) := TStb.of (h.2.2.alloc o)
theorem TStb.call {g : Nat} {w W W' : World} (h : TStb g w W) (ht : Touch (fun k => k = g) W W') : TStb g w W' := TStb.of (h.2.2.then_ ht)
/-- a client is as the plain method says, and its parts are new -/
def PlanP (F : Nat → Prop) (g : Nat) (c' : ClD) (l : List Recd) (ps : List CPart) (w : World) (e : Ending) (w' : World) : Prop :=
  ∃ v, e = .returned v ∧ RowS w' w.heap.size 91 29 v (ps.map CPart.vals) ∧ (∃ z', ClAt F w' g c' z' l) ∧ Touch (fun k => k = g) w w'
/-- behind an append to parts that are new -/
theorem plan_end {F : Nat → Prop} {g : Nat} {c' : ClD} {l : List Recd} {ps qs : List CPart} {w w2 w3 W : World} {v v' : Value} (hA : ∃ z', ClAt F w2 g c' z' l) (hF : ∀ k, F k → k < w.heap.size) (hR : RowS w2 w.heap.size 91 29 v (ps.map CPart.vals)) (ht : Touch (fun k => k = g) w w2) (hb : Below w2.heap.size w2 w3)
    (hR' : RowS W w.heap.size 91 29 v' (ps.map CPart.vals ++ qs.map CPart.vals)) (hgr : w3.grownBy W v.ownBlock) : PlanP F g c' l (ps ++ qs) w (.returned v') W := by
  obtain ⟨z, hC⟩ := hA
  have h3 : Touch (fun k => v.ownBlock = some k) w3 W := Touch.of_grown hgr fun k hk => hk
  have hne : ∀ k, v.ownBlock = some k → w.heap.size ≤ k := fun k hk => (hR.lt k hk).1
  have h23 : Touch (fun k => v.ownBlock = some k) w2 W := (Touch.of_below hb _).then_ h3
  exact ⟨v', rfl, by rw [List.map_append]; exact hR', ⟨z, hC.away h23 fun k hk hv => by have := hne k hv; have := hF k hk; omega⟩, ht.trans h23 fun i hi hv => absurd (hne i hv) (by omega)⟩
theorem parts_len (qs : List CPart) : ∀ r ∈ qs.map CPart.vals, r.length = 29 := by
  intro r hr
  obtain ⟨q, _, rfl⟩ := List.mem_map.1 hr
  rfl
theorem parts_one (qs : List CPart) : ∀ r ∈ qs.map CPart.vals, ∀ u ∈ r, u.oneCell' = true := by
  intro r hr u hu
  obtain ⟨q, _, rfl⟩ := List.mem_map.1 hr
  exact CPart.one q u hu
theorem app_touch {g : Nat} {w1 W0 w2 w3 w' : World} {v : Value} (h0 : Below w1.heap.size w1 W0) (ht : Touch (fun k => k = g) W0 w2) (hb : Below w2.heap.size w2 w3) (hg : w3.grownBy w' v.ownBlock) (hv : ∀ k, v.ownBlock = some k → W0.heap.size ≤ k) : TStb g w1 w' := by
  have h1 : Touch (fun k => v.ownBlock = some k) w2 w' := (Touch.of_below hb _).then_ (Touch.of_grown hg fun k hk => hk)
  have h2 : Touch (fun k => k = g) w1 w2 := (Touch.of_below h0 _).then_ ht
  have hs := h0.size
  exact TStb.of (h2.trans h1 fun i hi hk => absurd (hv i hk) (by omega))
set_option maxRecDepth 8000
/-- parts behind parts: those that are put behind lie in a block that was just made -/
theorem app_new {F : Nat → Prop} {g : Nat} {c' : ClD} {l : List Recd} {ps qs : List CPart} {w w1 W0 w2 : World} {v : Value} {k : Nat} (hA : ∃ z', ClAt F w2 g c' z' l) (hF : ∀ k, F k → k < w.heap.size) (hR : RowS w2 W0.heap.size 91 29 v (ps.map CPart.vals)) (ht : Touch (fun k => k = g) W0 w2) (hw0 : Below w.heap.size w w1) (hw1 : Below w1.heap.size w1 W0)
    (hn : ps.length ≤ 10) (hq : qs.length ≤ 10) (hk : k = qs.length) :
    ∃ v' w', (Builtin.append_ #[89, 89] 89 #[v, .slice (some ⟨w2.heap.size, 0, none⟩) k k]).run Tryz.prog (w2.alloc (.cells (qs.map CPart.vals).flatten.toArray 91)) = .ok v' w' ∧ (PlanP F g c' l (ps ++ qs) w (.returned v') w' ∧ TStb g w1 w') := by
  have hw := below_then hw0 hw1
  have hR0 := hR.base hw.size
  have ht0 : Touch (fun k => k = g) w w2 := (Touch.of_below hw _).then_ ht
  have hb : Below w2.heap.size w2 (w2.alloc (.cells (qs.map CPart.vals).flatten.toArray 91)) := (Below.refl _ _).alloc (Nat.le_refl _) _
  have hblk := Blk.new w2 91 (qs.map CPart.vals).flatten
  have hRn := hR0.stays hb
  have hsz : w.heap.size ≤ (w2.alloc (.cells (qs.map CPart.vals).flatten.toArray 91)).heap.size := Nat.le_trans ht0.size hb.size
  generalize w2.alloc (.cells (qs.map CPart.vals).flatten.toArray 91) = w3 at *
  obtain ⟨v', w', h1, h2, h3, -⟩ := RowS.appendAt (k := k) (ty := 89) Tryz.underlying89 infoPart33 rfl (by decide) (by decide) hRn hsz hblk (parts_len qs) (parts_one qs) (by rw [List.length_map, List.length_map]; omega) (by rw [List.length_map]; exact hk) k
  exact ⟨v', w', h1, plan_end hA hF hR0 ht0 hb h2 h3, app_touch hw1 ht hb h3 fun k hk => (hR.lt k hk).1⟩
/-- .. or in a block that was made before -/
theorem app_old {F : Nat → Prop} {g : Nat} {c' : ClD} {l : List Recd} {ps qs : List CPart} {w w1 W0 w2 : World} {v : Value} {k b : Nat} (hA : ∃ z', ClAt F w2 g c' z' l) (hF : ∀ k, F k → k < w.heap.size) (hR : RowS w2 W0.heap.size 91 29 v (ps.map CPart.vals)) (ht : Touch (fun k => k = g) W0 w2) (hw0 : Below w.heap.size w w1) (hw1 : Below w1.heap.size w1 W0)
    (hb : Blk W0 b 91 (qs.map CPart.vals).flatten) (hg : b ≠ g) (hn : ps.length ≤ 10) (hq : qs.length ≤ 10) (hk : k = qs.length) :
    ∃ v' w', (Builtin.append_ #[89, 89] 89 #[v, .slice (some ⟨b, 0, none⟩) k k]).run Tryz.prog w2 = .ok v' w' ∧ (PlanP F g c' l (ps ++ qs) w (.returned v') w' ∧ TStb g w1 w') := by
  have hw := below_then hw0 hw1
  have hR0 := hR.base hw.size
  have ht0 : Touch (fun k => k = g) w w2 := (Touch.of_below hw _).then_ ht
  obtain ⟨v', w', h1, h2, h3, -⟩ := RowS.appendAt (k := k) (ty := 89) Tryz.underlying89 infoPart33 rfl (by decide) (by decide) hR0 ht0.size (hb.touch ht hg) (parts_len qs) (parts_one qs) (by rw [List.length_map, List.length_map]; omega) (by rw [List.length_map]; exact hk) k
  exact ⟨v', w', h1, plan_end hA hF hR0 ht0 (Below.refl _ _) h2 h3, app_touch hw1 ht (Below.refl _ _) h3 fun k hk => (hR.lt k hk).1⟩
theorem ahead_few (c : ClD) (i : Int) : (c.ahead i).2.length ≤ 10 := by
  unfold ClD.ahead
  split
  · exact Nat.zero_le _
  · show 1 ≤ 10; decide
end Go.Proofs.YtfjflkmhhbhceaaGreatDoor

/-
  Layer 33, walks: what is kept while a client's next call is made. No condition.
-/
namespace Go.Proofs.YtfjflkmhhbhceaaGreatDoor
open Go.RowKit
theorem set_mid33 (P : List Value) (x y : Value) (R : List Value) : (P ++ x :: R).set P.length y = P ++ y :: R := by simp
theorem set_taken (z : Clnt) (p : CPart) (A : Option Addr) (n c : Nat) : (setAt z.vals 20 p.vals).set 19 (.slice A n c) = ({ z with ta := A, tn := n, tc := c, now := p } : Clnt).vals := by
  have h := setAt_mid p.vals z.now.vals ([.int .i64 z.id, .int .i64 z.self, .int .i64 z.server] ++ (z.p0.vals ++ (z.p1.vals ++ (z.p2.vals ++ (z.p3.vals ++ [.slice z.ta z.tn z.tc]))))) ([.bool z.busy] ++ (z.sent.vals ++ [.int .i64 z.due, .int .i64 z.made, .slice z.ra z.rn z.rc])) (by rw [CPart.len, CPart.len])
  have e : z.vals = ([.int .i64 z.id, .int .i64 z.self, .int .i64 z.server] ++ (z.p0.vals ++ (z.p1.vals ++ (z.p2.vals ++ (z.p3.vals ++ [.slice z.ta z.tn z.tc]))))) ++ (z.now.vals ++ ([.bool z.busy] ++ (z.sent.vals ++ [.int .i64 z.due, .int .i64 z.made, .slice z.ra z.rn z.rc]))) := by
    unfold Clnt.vals
    simp only [List.append_assoc]
  rw [e]
  have e2 : setAt (([.int .i64 z.id, .int .i64 z.self, .int .i64 z.server] ++ (z.p0.vals ++ (z.p1.vals ++ (z.p2.vals ++ (z.p3.vals ++ [.slice z.ta z.tn z.tc]))))) ++ (z.now.vals ++ ([.bool z.busy] ++ (z.sent.vals ++ [.int .i64 z.due, .int .i64 z.made, .slice z.ra z.rn z.rc])))) 20 p.vals = _ := h
  rw [e2]
  have e3 := set_mid33 ([Value.int .i64 z.id, .int .i64 z.self, .int .i64 z.server] ++ (z.p0.vals ++ (z.p1.vals ++ (z.p2.vals ++ z.p3.vals)))) (.slice z.ta z.tn z.tc) (.slice A n c) (p.vals ++ ([.bool z.busy] ++ (z.sent.vals ++ [.int .i64 z.due, .int .i64 z.made, .slice z.ra z.rn z.rc])))
  have e4 : (([Value.int .i64 z.id, .int .i64 z.self, .int .i64 z.server] ++ (z.p0.vals ++ (z.p1.vals ++ (z.p2.vals ++ z.p3.vals)))) ++ Value.slice z.ta z.tn z.tc :: (p.vals ++ ([Value.bool z.busy] ++ (z.sent.vals ++ [Value.int .i64 z.due, Value.int .i64 z.made, Value.slice z.ra z.rn z.rc])))).set 19 (.slice A n c) = _ := e3
  have e5 : ∀ (a b c d e q : List Value) (s : Value), (a ++ (b ++ (c ++ (d ++ (e ++ [s]))))) ++ q = (a ++ (b ++ (c ++ (d ++ e)))) ++ s :: q := fun a b c d e q s => by simp
  have e6 : ∀ (a b c d e q : List Value) (s : Value), a ++ (b ++ (c ++ (d ++ (e ++ ([s] ++ q))))) = (a ++ (b ++ (c ++ (d ++ e)))) ++ s :: q := fun a b c d e q s => by simp
  unfold Clnt.vals
  rw [e5, e4, e6]
/-- the first of a client's parts is taken -/
theorem ClAt.taken {F : Nat → Prop} {w W : World} {g : Nat} {c : ClD} {z : Clnt} {l : List Recd} (hC : ClAt F w g c z l) {p : CPart} {ps : List CPart} (hp : c.parts = p :: ps) {b off : Nat} (hA : z.ta = some ⟨b, off, none⟩) {A' : Option Addr} (hA' : A' = if z.tc = 1 then some ⟨b, off, none⟩ else some ⟨b, off + 29, none⟩) (hW : W = ((putsW w g 20 p.vals).setCell ⟨g, 19, none⟩ (.slice A' ps.length (z.tc - 1))).drew) :
    ClAt F W g { c with parts := ps, now := p } { z with ta := A', tn := ps.length, tc := z.tc - 1, now := p } l ∧ Touch (fun k => k = g) w W := by
  have hb := ((hC.blk.puts 20 p.vals).set_ 19 (.slice A' ps.length (z.tc - 1))).drew
  have ht : Touch (fun k => k = g) w W := by
    rw [hW]
    exact (((Touch.refl (fun k => k = g) w).puts (k := g) (.inl rfl)).setCell (p := ⟨g, 19, none⟩) (.inl rfl) _).drew
  rw [← hW, set_taken] at hb
  have hlen := hC.pts.len
  rw [hp, List.length_cons] at hlen
  have hfit := hC.pts.fit
  have hty : Touch (TyIn w [93]) w W := ht.mono fun k _ hk => by subst hk; exact tyIn_of hC.blk (by decide)
  have hpt := hC.pts.tou (hty.less (by decide))
  refine ⟨⟨?_, ⟨hC.is.id, hC.is.self, hC.is.server, hC.is.ps, rfl, hC.is.busy, hC.is.sent, hC.is.due, hC.is.made⟩, ⟨rfl, by show ps.length ≤ z.tc - 1; omega, ?_, ?_⟩, hC.rcs.tou (hty.less (by decide)), hC.fg, fun k hk => Nat.lt_of_lt_of_le (hC.lt k hk) ht.size⟩, ht⟩
  · exact hb
  · simp only [hA']
    by_cases h1 : z.tc = 1
    · have : ps = [] := List.eq_nil_of_length_eq_zero (by omega)
      subst this
      exact At.nil
    · simp only [h1, if_false]
      have hrow := hpt.row
      rw [hp] at hrow
      intro i r hi
      obtain ⟨b2, off2, h2, h3, h4⟩ := hrow (i + 1) r (by rw [List.map_cons, List.getElem?_cons_succ]; exact hi)
      rw [hA] at h2
      injection h2 with h2
      injection h2 with h5 h6 _
      subst h5 h6
      refine ⟨b, off + 29, rfl, h3, fun j u hu => ?_⟩
      have := h4 j u hu
      rw [show off + (i + 1) * 29 + j = off + 29 + i * 29 + j by omega] at this
      exact this
  · simp only [hA']
    intro q hq
    have ho := hpt.own _ hA
    by_cases h1 : z.tc = 1
    · simp only [h1, if_true] at hq
      injection hq with hq
      subst hq
      exact ho
    · simp only [h1, if_false] at hq
      injection hq with hq
      subst hq
      exact ho
/-- a row that is read while new blocks are made -/
abbrev RowSt (g o n : Nat) (cs : Array Value) (W : World) : Prop := rowOf W g o n = some cs ∧ g < W.heap.size
theorem RowSt.alloc {g o n : Nat} {cs : Array Value} {W : World} (h : RowSt g o n cs W) (ob : Obj) : RowSt g o n cs (W.alloc ob) := ⟨(rowOf_alloc_past W ob g o n h.2).trans h.1, by have := h.2; simp; omega⟩
theorem RowSt.drew {g o n : Nat} {cs : Array Value} {W : World} (h : RowSt g o n cs W) : RowSt g o n cs W.drew := h
theorem clnt_set54 (z : Clnt) (n : Int) : z.vals.set 54 (.int .i64 n) = ({ z with made := n } : Clnt).vals := by kernel_rfl
theorem clnt_set49 (z : Clnt) (b : Bool) : z.vals.set 49 (.bool b) = ({ z with busy := b } : Clnt).vals := by kernel_rfl
theorem clnt_set53 (z : Clnt) (n : Int) : z.vals.set 53 (.int .i64 n) = ({ z with due := n } : Clnt).vals := by kernel_rfl
theorem clnt_set55 (z : Clnt) (A : Option Addr) (n c : Nat) : z.vals.set 55 (.slice A n c) = ({ z with ra := A, rn := n, rc := c } : Clnt).vals := by kernel_rfl
theorem clnt_set19 (z : Clnt) (A : Option Addr) (n c : Nat) : z.vals.set 19 (.slice A n c) = ({ z with ta := A, tn := n, tc := c } : Clnt).vals := by kernel_rfl
theorem clnt_set50 (z : Clnt) (p : Packet) : setAt z.vals 50 p.vals = ({ z with sent := p } : Clnt).vals := by kernel_rfl
theorem sends_g {c : ClD} {p : CPart} (h : CallG p.c) : CallG (c.sends p) := by
  obtain ⟨h1, h2, h3, h4, h5⟩ := h
  unfold ClD.sends
  cases hasC p.c.proc 102 <;> cases hasC p.c.proc 70 <;> exact ⟨h1, h2, h3, h4, h5⟩
theorem sends_proc (c : ClD) (p : CPart) : (c.sends p).proc = p.c.proc := by
  unfold ClD.sends
  cases hasC p.c.proc 102 <;> cases hasC p.c.proc 70 <;> rfl
/-- two calls lie in blocks of their own -/
structure TwoC (F : Nat → Prop) (g bx bt : Nat) (c : ClD) (z : Clnt) (l : List Recd) (w : World) (x t : Call) (W : World) : Prop where
  xb : Blk W bx 36 x.vals
  tb : Blk W bt 36 t.vals
  cl : ClAt F W g c z l
  ne : bx ≠ bt
  lx : w.heap.size ≤ bx
  lt : w.heap.size ≤ bt
  to : Touch (fun k => k = g) w W
theorem TwoC.make {F : Nat → Prop} {g : Nat} {c : ClD} {z : Clnt} {l : List Recd} {w W : World} (hC : ClAt F W g c z l) (ht : Touch (fun k => k = g) w W) (x : Call) :
    TwoC F g W.heap.size (W.heap.size + 1) c z l w x x ((W.alloc (.cells x.vals.toArray 36)).alloc (.cells x.vals.toArray 36)).drew ∧ TwoC F g (W.heap.size + 1) W.heap.size c z l w x x ((W.alloc (.cells x.vals.toArray 36)).alloc (.cells x.vals.toArray 36)).drew := by
  obtain ⟨h1, h2, h3, -⟩ := chain2_blks W x.vals x.vals 36 36
  have hs := ht.size
  have hc := hC.below h3.drew
  have hT := ht.then_ (Touch.of_below h3.drew _)
  exact ⟨⟨h1.drew, h2.drew, hc, by omega, by omega, by omega, hT⟩, ⟨h2.drew, h1.drew, hc, by omega, by omega, by omega, hT⟩⟩
/-- the library's tables are laid, and none of F's blocks is theirs -/
def LaidF (F : Nat → Prop) (w : World) : Prop := ∃ w0, TabLaid w0 ∧ Below w0.heap.size w0 w ∧ ∀ k, F k → w0.heap.size ≤ k
theorem LaidF.look {F : Nat → Prop} {w W : World} (h : LaidF F w) (ht : Touch F w W) : TabLaid W := by
  obtain ⟨w0, h1, h2, h3⟩ := h
  exact h1.below (h2.trans (ht.below (fun k _ hk => h3 k hk) h2.size))
/-- what a region reads while such calls are written -/
abbrev XStb (g bx bt : Nat) (w W : World) : Prop := (∀ o, W.cell? ⟨g, o, none⟩ = w.cell? ⟨g, o, none⟩) ∧ thereB W bx 1 1 = true ∧ thereB W bt 1 1 = true ∧ thereB W bx 3 1 = true ∧ thereB W bt 3 1 = true
theorem XStb.start {g bx bt : Nat} {w : World} (h1 : thereB w bx 1 1 = true) (h2 : thereB w bt 1 1 = true) (h3 : thereB w bx 3 1 = true) (h4 : thereB w bt 3 1 = true) : XStb g bx bt w w.drew := ⟨fun _ => rfl, h1, h2, h3, h4⟩
theorem thereB_stays {w W : World} {b o n : Nat} (h : thereB w b o n = true) (hb : Below w.heap.size w W) : thereB W b o n = true := by
  unfold thereB at h ⊢
  rcases Nat.lt_or_ge b w.heap.size with hlt | hge
  · rw [hb.block b hlt]; exact h
  · rw [Array.getElem?_eq_none hge] at h; cases h
theorem XStb.call {g bx bt : Nat} {w W W' : World} (h : XStb g bx bt w W) (hg : g < W.heap.size) (hb : Below W.heap.size W W') : XStb g bx bt w W' :=
  ⟨fun o => (hb.cell (p := ⟨g, o, none⟩) hg).trans (h.1 o), thereB_stays h.2.1 hb, thereB_stays h.2.2.1 hb, thereB_stays h.2.2.2.1 hb, thereB_stays h.2.2.2.2 hb⟩
theorem XStb.puts {g bx bt : Nat} {w W : World} (h : XStb g bx bt w W) {k i : Nat} {cs : List Value} (hk : g ≠ k) (hg : g < W.heap.size) : XStb g bx bt w (putsW W k i cs) :=
  ⟨fun o => (cell_putsFar W g o k i cs hk hg).trans (h.1 o), by rw [thereB_puts]; exact h.2.1, by rw [thereB_puts]; exact h.2.2.1, by rw [thereB_puts]; exact h.2.2.2.1, by rw [thereB_puts]; exact h.2.2.2.2⟩
theorem TwoC.below {F : Nat → Prop} {g bx bt : Nat} {c : ClD} {z : Clnt} {l : List Recd} {w W W' : World} {x t : Call} (h : TwoC F g bx bt c z l w x t W) (hb : Below W.heap.size W W') : TwoC F g bx bt c z l w x t W' :=
  ⟨h.xb.stays hb, h.tb.stays hb, h.cl.below hb, h.ne, h.lx, h.lt, h.to.then_ (Touch.of_below hb _)⟩
theorem TwoC.put1 {F : Nat → Prop} {g bx bt : Nat} {c : ClD} {z : Clnt} {l : List Recd} {w W : World} {x t : Call} (h : TwoC F g bx bt c z l w x t W) (hF : ∀ k, F k → k < w.heap.size) (s u : List UInt8) : TwoC F g bx bt c z l w { x with fh := s } { t with fh := u } (putsW (putsW W bx 1 [.string (bs s)]) bt 1 [.string (bs u)]) := by
  have t1 : Touch (fun k => k = bx ∨ k = bt) W (putsW (putsW W bx 1 [.string (bs s)]) bt 1 [.string (bs u)]) := ((Touch.refl _ _).puts (.inl (.inl rfl))).puts (.inl (.inr rfl))
  have h1 := (h.xb.puts 1 [.string (bs s)]).putsFar (b := bt) (o := 1) (vs := [.string (bs u)]) h.ne
  have h2 := ((h.tb.putsFar (b := bx) (o := 1) (vs := [.string (bs s)]) (Ne.symm h.ne)).puts 1 [.string (bs u)])
  have := h.lx
  have := h.lt
  exact ⟨h1, h2, h.cl.away t1 (fun k hk e => by have := hF k hk; omega), h.ne, h.lx, h.lt, h.to.trans t1 fun i hi e => by omega⟩
theorem TwoC.put3 {F : Nat → Prop} {g bx bt : Nat} {c : ClD} {z : Clnt} {l : List Recd} {w W : World} {x t : Call} (h : TwoC F g bx bt c z l w x t W) (hF : ∀ k, F k → k < w.heap.size) (s u : List UInt8) : TwoC F g bx bt c z l w { x with fh2 := s } { t with fh2 := u } (putsW (putsW W bx 3 [.string (bs s)]) bt 3 [.string (bs u)]) := by
  have t1 : Touch (fun k => k = bx ∨ k = bt) W (putsW (putsW W bx 3 [.string (bs s)]) bt 3 [.string (bs u)]) := ((Touch.refl _ _).puts (.inl (.inl rfl))).puts (.inl (.inr rfl))
  have h1 := (h.xb.puts 3 [.string (bs s)]).putsFar (b := bt) (o := 3) (vs := [.string (bs u)]) h.ne
  have h2 := ((h.tb.putsFar (b := bx) (o := 3) (vs := [.string (bs s)]) (Ne.symm h.ne)).puts 3 [.string (bs u)])
  have := h.lx
  have := h.lt
  exact ⟨h1, h2, h.cl.away t1 (fun k hk e => by have := hF k hk; omega), h.ne, h.lx, h.lt, h.to.trans t1 fun i hi e => by omega⟩
/-- a client is as the plain method says, its blocks are F's or new, and packets are given back -/
def NextP (F : Nat → Prop) (g : Nat) (c' : ClD) (out : List Packet) (w : World) (e : Ending) (w' : World) : Prop :=
  ∃ v, e = .returned v ∧ RowS w' w.heap.size 40 3 v (out.map Packet.vals) ∧ (∃ G z l, ClAt G w' g c' z l ∧ ∀ k, G k → F k ∨ w.heap.size ≤ k) ∧ Touch F w w'
end Go.Proofs.YtfjflkmhhbhceaaGreatDoor


/-
  Layer 33, walks: a record is put behind a client's records. Condition: at most a million records.
-/
namespace Go.Proofs.YtfjflkmhhbhceaaGreatDoor
open Go.RowKit
theorem repZ_at (w : World) (F : Nat → Prop) : RepAt w F replyZ repD0 :=
  ⟨rfl, RowS.none_, RowS.none_, fun k hk => (by cases hk), fun k hk => (by cases hk), Nat.zero_le _, Nat.zero_le _⟩
theorem recds_len (l : List Recd) : ∀ r ∈ l.map Recd.vals, r.length = 88 := by
  intro r hr
  obtain ⟨q, _, rfl⟩ := List.mem_map.1 hr
  rfl
/-- what 'append(c.records, ..)' gives, and the store behind it -/
theorem ClAt.more {F : Nat → Prop} {w : World} {g : Nat} {c : ClD} {z : Clnt} {l : List Recd} (hC : ClAt F w g c z l) (r : Recd) (rd : RecdD) (h1 : r.cred = rd.cred) (h2 : r.begin_ = rd.beg) (h3 : r.end_ = rd.fin) (h4 : r.call = rd.call) (h5 : r.reply = replyZ) (h6 : rd.rep = repD0) (hn : c.recs.length ≤ 1000000) :
    ∃ v' w', (Builtin.append_ #[60, 60] 60 #[.slice z.ra z.rn z.rc, .slice (some ⟨w.heap.size, 0, none⟩) 1 1]).run Tryz.prog (w.alloc (.cells r.vals.toArray 65)) = .ok v' w' ∧
      ∃ A n cc, v' = .slice A n cc ∧ w'.cell? ⟨g, 55, none⟩ = some (.slice z.ra z.rn z.rc) ∧ w'.frozen? ⟨g, 55, none⟩ = false ∧
        ClAt (fun k => F k ∨ (w.heap.size ≤ k ∧ k < w'.heap.size)) (w'.setCell ⟨g, 55, none⟩ (.slice A n cc)) g { c with recs := c.recs ++ [rd] } { z with ra := A, rn := n, rc := cc } (l ++ [r]) ∧ Touch F w (w'.setCell ⟨g, 55, none⟩ (.slice A n cc)) ∧
        (∀ b T cs, Blk w b T cs → T ≠ 65 → T ≠ 93 → Blk w' b T cs ∧ Blk (w'.setCell ⟨g, 55, none⟩ (.slice A n cc)) b T cs) := by
  have hb : Below w.heap.size w (w.alloc (.cells r.vals.toArray 65)) := (Below.refl _ _).alloc (Nat.le_refl _) _
  have hblk := Blk.new w 65 r.vals
  have hsz : (w.alloc (.cells r.vals.toArray 65)).heap.size = w.heap.size + 1 := by simp
  generalize w.alloc (.cells r.vals.toArray 65) = w3 at *
  have hC3 := hC.below hb
  have hll : l.length ≤ 1000000 := by rw [hC.rcs.len]; exact hn
  have hfl : ([r].map Recd.vals).flatten = r.vals := by simp
  obtain ⟨v', w', hrun, hR, hgr, hat⟩ := RowS.appendAt (k := 1) (ty := 60) (news := [r].map Recd.vals) Tryz.underlying60 infoRecd33 rfl (by decide) (by decide) hC3.rcs.row (Nat.zero_le _) (by rw [hfl]; exact hblk) (recds_len _) (fun q hq u hu => by obtain ⟨y, _, rfl⟩ := List.mem_map.1 hq; exact Recd.one y u hu) (by rw [List.length_map, List.length_map]; show l.length + 1 ≤ _; omega) rfl 1
  refine ⟨v', w', hrun, ?_⟩
  obtain ⟨A, cc, hv, -⟩ := hR.at_
  refine ⟨A, _, cc, hv, ?_⟩
  rw [hv] at hR hat
  generalize (List.map Recd.vals l ++ List.map Recd.vals [r]).length = n at *
  have htr : Touch (fun k => (Value.slice z.ra z.rn z.rc).ownBlock = some k) w3 w' := Touch.of_grown hgr fun k hk => hk
  have hty := own_ty hC3.rcs.row.2
  have hT : Touch (TyIn w3 [65]) w3 w' := htr.mono fun k _ hv => by
    obtain ⟨C, hC⟩ := hty k hv
    exact ⟨C, _, _, hC, by decide⟩
  have hng : (Value.slice z.ra z.rn z.rc).ownBlock ≠ some g := Blk.own_ne hC3.rcs.row.2 hC3.blk (by decide)
  have hbg : Blk w' g 93 z.vals := hC3.blk.touch htr hng
  have hpt := hC3.pts.tou (hT.less (by decide))
  have hgs : ∀ k, F k → k < w.heap.size := hC.lt
  have hkeep33 : ∀ b T cs, Blk w b T cs → T ≠ 65 → T ≠ 93 → Blk w' b T cs ∧ Blk (w'.setCell ⟨g, 55, none⟩ (.slice A n cc)) b T cs := by
    intro b T cs h0 h1 h2
    have h3 := (h0.stays hb).touch htr fun e => by
      obtain ⟨C, hC⟩ := hty b e
      have h4 : w3.heap[b]? = some (.cells cs.toArray T (0, 0)) := h0.stays hb
      rw [h4] at hC
      injection hC with hC
      injection hC with _ hC
      exact h1 hC
    exact ⟨h3, h3.far (p := ⟨g, 55, none⟩) (h3.ne_ hbg h2) _⟩
  refine ⟨hbg.cell 55, hbg.frozen 55, ?_, ?_, hkeep33⟩
  · have ht2 : Touch (fun k => k = g) w' (w'.setCell ⟨g, 55, none⟩ (.slice A n cc)) := (Touch.refl (fun k => k = g) w').setCell (p := ⟨g, 55, none⟩) (.inl rfl) _
    have hbs := hbg.set_ 55 (.slice A n cc)
    rw [clnt_set55] at hbs
    have hs2 : (w'.setCell ⟨g, 55, none⟩ (.slice A n cc)).heap.size = w'.heap.size := by simp [World.setCell]
    have hty2 : Touch (TyIn w' [93]) w' (w'.setCell ⟨g, 55, none⟩ (.slice A n cc)) := ht2.mono fun k _ hk => by subst hk; exact tyIn_of hbg (by decide)
    have hrep : ∀ x d, RepAt w3 F x d → RepAt (w'.setCell ⟨g, 55, none⟩ (.slice A n cc)) F x d := fun x d h => (h.tou (hT.less (by decide))).tou (hty2.less (by decide))
    have hi := hC.is
    have hwl : w3.heap.size ≤ w'.heap.size := htr.size
    refine ⟨hbs, ⟨hi.id, hi.self, hi.server, hi.ps, hi.now, hi.busy, hi.sent, hi.due, hi.made⟩, (hpt.tou (hty2.less (by decide))).mono fun k hk => .inl hk, ⟨?_, ?_, ?_, ?_⟩, .inl hC.fg, ?_⟩
    · rw [List.map_append]
      exact hR.tou hty2 (by decide)
    · intro k hk
      rcases hat with h | h
      · exact .inl (hC.rcs.own k (by rw [← h]; exact hk))
      · rw [h] at hk
        have : w3.heap.size = k := by injection hk
        have hlk := (hR.lt k (by rw [h]; exact hk)).2
        exact .inr ⟨by omega, hlk⟩
    · rw [List.length_append, List.length_append, hC.rcs.len]
      rfl
    · intro i h1' h2'
      rw [List.length_append] at h1' h2'
      rcases Nat.lt_or_ge i l.length with hlt | hge
      · have hlt2 : i < c.recs.length := by rw [← hC.rcs.len]; exact hlt
        have e := hC3.rcs.each i hlt hlt2
        simp only [List.getElem_append_left hlt, List.getElem_append_left hlt2]
        exact (⟨e.cred, e.beg, e.fin, e.call, hrep _ _ e.rep⟩ : RecIs _ F _ _).mono fun k hk => .inl hk
      · have hge2 : c.recs.length ≤ i := by rw [← hC.rcs.len]; exact hge
        simp only [List.length_singleton] at h1' h2'
        simp only [List.getElem_append_right hge, List.getElem_append_right hge2, List.getElem_singleton]
        exact ⟨h1, h2, h3, h4, by rw [h5, h6]; exact repZ_at _ _⟩
    · intro k hk
      rw [hs2]
      rcases hk with hk | hk
      · have := hgs k hk; omega
      · exact hk.2
  · have h0 : Touch F w w' := (Touch.of_below hb F).then_ (htr.mono fun k _ hk => hC.rcs.own k hk)
    exact h0.setCell (p := ⟨g, 55, none⟩) (.inl hC.fg) _
theorem cPut_short (x : Call) : (cPut x).1.length ≤ maxLen := by
  unfold cPut
  split
  · next h =>
    have h1 := cLaid_len x (cFields x.proc) (cCheck_fine h) (fun k hk => cFields_letter x.proc hk) _ (Nat.le_refl _)
    have h2 : (cFields x.proc).length ≤ 100 := by
      rcases cFields_cases x.proc with hlo | hhi | e | e | e | e | e | e | e | e | e | e | e | e | e | e | e | e | e | e | e | e | e | e
      · rw [cFields_low hlo]; decide
      · rw [cFields_high hhi]; decide
      all_goals (rw [e]; decide)
    show (cLaid x (cFields x.proc) (cFields x.proc).length).length ≤ maxLen
    unfold maxLen
    omega
  · exact Nat.zero_le _
end Go.Proofs.YtfjflkmhhbhceaaGreatDoor


/-
  Layer 33, walks: a client whose parts are new; parts that are told whose they are, one by one. No condition.
-/
namespace Go.Proofs.YtfjflkmhhbhceaaGreatDoor
open Go.RowKit
theorem RowS.fits {w : World} {B : Nat} {e : TypeId} {sz n c : Nat} {A : Option Addr} {rows : List (List Value)} (h : RowS w B e sz (.slice A n c) rows) : n ≤ c := by
  rcases h.2.2 with ⟨h1, h2⟩ | ⟨g, cap, cur, h1, _, _, h4, _⟩
  · injection h1 with _ h3 _
    omega
  · injection h1 with _ h3 h5
    omega
theorem RowS.lenOf {w : World} {B : Nat} {e : TypeId} {sz n c : Nat} {A : Option Addr} {rows : List (List Value)} (h : RowS w B e sz (.slice A n c) rows) : n = rows.length := by
  obtain ⟨A', c', hv, -⟩ := h.at_
  injection hv
theorem ClAt.partsNew {F : Nat → Prop} {w w4 wr : World} {g : Nat} {c1 : ClD} {z4 : Clnt} {l : List Recd} {A : Option Addr} {n cap B : Nat} {ps qs : List CPart} (hC : ClAt F w4 g c1 z4 l) (hF : ∀ k, F k → k < w.heap.size) (h4 : Touch (fun k => k = g) w w4) (hB : w.heap.size ≤ B) (hR0 : RowS w4 B 91 29 (.slice A n cap) (qs.map CPart.vals)) (hR : RowS wr B 91 29 (.slice A n cap) (ps.map CPart.vals))
    (hT : Touch (fun k => (Value.slice A n cap).ownBlock = some k) (w4.setCell ⟨g, 19, none⟩ (.slice A n cap)) wr) :
    ClAt (fun k => F k ∨ (w.heap.size ≤ k ∧ k < wr.heap.size)) wr g { c1 with parts := ps } { z4 with ta := A, tn := n, tc := cap } l ∧ Touch F w wr := by
  have hown : ∀ k, (Value.slice A n cap).ownBlock = some k → w.heap.size ≤ k ∧ k < wr.heap.size := fun k hk => ⟨Nat.le_trans hB (hR.lt k hk).1, (hR.lt k hk).2⟩
  have hown0 : ∀ k, (Value.slice A n cap).ownBlock = some k → k < w4.heap.size := fun k hk => (hR0.lt k hk).2
  have hgF := hF g hC.fg
  have ht1 : Touch (fun k => k = g) w4 (w4.setCell ⟨g, 19, none⟩ (.slice A n cap)) := (Touch.refl (fun k => k = g) w4).setCell (p := ⟨g, 19, none⟩) (.inl rfl) _
  have hb1 := hC.blk.set_ 19 (.slice A n cap)
  rw [clnt_set19] at hb1
  have hty : Touch (TyIn w4 [93]) w4 (w4.setCell ⟨g, 19, none⟩ (.slice A n cap)) := ht1.mono fun k _ hk => by subst hk; exact tyIn_of hC.blk (by decide)
  have hr1 := hC.rcs.tou (hty.less (by decide))
  have hoF : ∀ k, F k → ¬ (Value.slice A n cap).ownBlock = some k := fun k hk e => by have := hF k hk; have := (hown k e).1; omega
  have hr2 := hr1.away hT hoF
  have hb2 := hb1.touch hT (hoF g hC.fg)
  have hi := hC.is
  have hs1 := ht1.size
  have hs2 := hT.size
  refine ⟨⟨hb2, ⟨hi.id, hi.self, hi.server, hi.ps, hi.now, hi.busy, hi.sent, hi.due, hi.made⟩, ⟨?_, hR.fits, hR.rows, fun p hp => ?_⟩, hr2.mono fun k hk => .inl hk, .inl hC.fg, fun k hk => ?_⟩, ?_⟩
  · have := hR.lenOf
    rw [List.length_map] at this
    exact this
  · have ho : (Value.slice A n cap).ownBlock = some p.block := by rw [show A = some p from hp]; rfl
    exact ⟨.inr (hown _ ho), own_ty hR.2 _ ho⟩
  · rcases hk with hk | hk
    · have := hC.lt k hk; omega
    · exact hk.2
  · have h5 : Touch F w w4 := h4.mono fun k _ hk => by subst hk; exact hC.fg
    have h6 : Touch F w (w4.setCell ⟨g, 19, none⟩ (.slice A n cap)) := h5.setCell (p := ⟨g, 19, none⟩) (.inl hC.fg) _
    exact h6.trans hT fun i hi hk => absurd (hown i hk).1 (by omega)
def whoP (a : Ask) (p : CPart) : CPart := { p with uid := a.uid, gid := a.gid }
def updP (a : Ask) (k : Nat) (ps : List CPart) : List CPart := (ps.take k).map (whoP a) ++ ps.drop k
theorem updP_zero (a : Ask) (ps : List CPart) : updP a 0 ps = ps := rfl
theorem updP_all (a : Ask) (ps : List CPart) {k : Nat} (hk : ps.length ≤ k) : updP a k ps = ps.map (whoP a) := by
  unfold updP
  rw [List.take_of_length_le hk, List.drop_eq_nil_of_le hk, List.append_nil]
theorem updP_len (a : Ask) (k : Nat) (ps : List CPart) : (updP a k ps).length = ps.length := by
  unfold updP
  rw [List.length_append, List.length_map, List.length_take, List.length_drop]
  omega
theorem updP_parts (a : Ask) {k : Nat} {ps : List CPart} (hk : k < ps.length) : ∃ pre post, pre.length = k ∧ updP a k ps = pre ++ ps[k] :: post ∧ updP a (k + 1) ps = pre ++ whoP a ps[k] :: post := by
  refine ⟨(ps.take k).map (whoP a), ps.drop (k + 1), by simp; omega, ?_, ?_⟩
  · unfold updP
    rw [List.drop_eq_getElem_cons hk]
  · unfold updP
    rw [List.take_add_one, List.getElem?_eq_getElem hk, List.map_append]
    simp
theorem RowS.putWho {W : World} {B b n c : Nat} {pre post : List CPart} {x : CPart} (a : Ask) (h : RowS W B 91 29 (.slice (some ⟨b, 0, none⟩) n c) ((pre ++ x :: post).map CPart.vals)) :
    RowS ((W.setCell ⟨b, pre.length * 29 + 27, none⟩ (.int .i64 a.uid)).setCell ⟨b, pre.length * 29 + 28, none⟩ (.int .i64 a.gid)) B 91 29 (.slice (some ⟨b, 0, none⟩) n c) ((pre ++ whoP a x :: post).map CPart.vals) := by
  have hn := h.lenOf
  rw [List.map_append, List.map_cons] at h hn ⊢
  have hx : x.vals = (x.c.vals ++ [.int .i64 x.dir, .int .i64 x.to_, .int .i64 x.put]) ++ ([.int .i64 x.uid, .int .i64 x.gid] ++ []) := by
    unfold CPart.vals; simp
  rw [hx] at h hn
  have := RowS.putMid (r := [.int .i64 a.uid, .int .i64 a.gid]) h rfl hn
  rw [List.length_map] at this
  have hl : (x.c.vals ++ [Value.int .i64 x.dir, .int .i64 x.to_, .int .i64 x.put]).length = 27 := rfl
  rw [hl] at this
  have hy : (whoP a x).vals = (x.c.vals ++ [.int .i64 x.dir, .int .i64 x.to_, .int .i64 x.put]) ++ ([.int .i64 a.uid, .int .i64 a.gid] ++ []) := by
    unfold CPart.vals whoP; simp
  rw [hy]
  exact this
end Go.Proofs.YtfjflkmhhbhceaaGreatDoor


/-
  Layer 33, walks: all that a client has made. Condition: at most a million records.
-/
namespace Go.Proofs.YtfjflkmhhbhceaaGreatDoor
open Go.RowKit
attribute [local go_sem ↓] Go.wp_at_zero Go.wp_at_succ
attribute [local go_sem] rowAt_ptr rowOf_drew rowOf_drewN rowOf_alloc_past rowOf_new
attribute [local go_sem ↓] st33Reply ld33Reply

attribute [local go_sem] thereB_drew thereB_drewN thereB_new thereB_past putsW_drew putsW_size ptrAt blkAt offAt allV33 oneV33

attribute [local go_sem low] rowV33_agg

attribute [local go_sem] Reply.len rowV33_reply

set_option maxRecDepth 20000 in
set_option maxHeartbeats 800000 in
theorem cloneR33 (A : Option Addr) (c : Nat) (l : List Recd) (w : World) (hl : l.length ≤ 1000000) (hA : At w 88 A (l.map Recd.vals)) :
    Calls Tryz.prog 49 #[.slice A l.length c] w fun e w' => ∃ A' c', e = .returned (.slice A' l.length c') ∧ RowS w' w.heap.size 65 88 (.slice A' l.length c') (l.map Recd.vals) ∧ Below w.heap.size w w' := by
  suffices H : Calls Tryz.prog 49 #[.slice A l.length c] w fun e w' => ∃ v, e = .returned v ∧ RowS w' w.heap.size 65 88 v (l.map Recd.vals) ∧ Below w.heap.size w w' by
    refine H.mono ?_
    rintro e w' ⟨v, rfl, hR, hb⟩
    obtain ⟨A', c', rfl, -⟩ := hR.at_
    rw [List.length_map] at hR ⊢
    exact ⟨A', c', rfl, hR, hb⟩
  obtain ⟨i0, hi, hz, hsize, hby⟩ := info_parts infoRecd33
  have q22 : ∀ (w : World) (a : Option Addr) (n c n' c' : Nat), (binOp .eql 60 (.slice a n c) (.slice none n' c')).run Tryz.prog w = .ok (.bool a.isNone) w := fun w a n c n' c' => Lib.run_eql_slice_nil w _ _ a n c n' c' Tryz.underlying60
  have hlen : ∀ r ∈ l.map Recd.vals, r.length = 88 := recds_len l
  cases A with
  | none =>
    have h0 : l = [] := by
      cases l with
      | nil => rfl
      | cons x l => obtain ⟨b, off, h, _⟩ := hA 0 x.vals (by simp); cases h
    subst h0
    go_enter Tryz.func49, Tryz.ntmps49
    go_wp2
    go_ret
    exact ⟨_, rfl, RowS.none_, Below.refl _ _⟩
  | some A =>
    have hcell := hA.flat hlen (by omega)
    have hfl := flat_len _ hlen
    rw [List.length_map] at hfl
    have H := Lib.hid (And.intro hcell (And.intro hlen hfl))
    clear hcell hlen hfl hA
    go_enter Tryz.func49, Tryz.ntmps49
    go_wp2_with (at_builtin; refine wpList_append_own _ rfl _ _ 60 rfl w.heap.size 65 i0 (.agg recdZ33.vals.toArray) 88 800 Tryz.underlying60 hi hz hsize hby rfl (by decide) _ _ _ rfl (World.ownsRow_made w #[] 0 (Nat.le_refl _) (Nat.zero_le _) rfl) A l.length c (l.map Recd.vals).flatten rfl ?qc1 ?qc2 ?qc3 ?qc4 ?qc5 ?qc6 ?_)
    case qc1 => exact H.out.2.2
    case qc2 => exact fun j u hj => Lib.cell?_alloc_some _ (H.out.1 j u hj)
    case qc3 =>
      intro u hu
      obtain ⟨r, hr, hu⟩ := List.mem_flatten.1 hu
      obtain ⟨x, _, rfl⟩ := List.mem_map.1 hr
      exact x.one u hu
    case qc4 => unfold maxLen; omega
    case qc5 => omega
    case qc6 => simp
    intro v' w1 hown hgrow hnil
    go_wp2
    go_ret
    refine ⟨v', rfl, ⟨H.out.2.1, ?_⟩, ?_⟩
    · rw [List.length_map]
      simpa using hown
    · exact ((Below.refl _ w).alloc (Nat.le_refl _) _).grown hgrow (by simp) (by intro k hk; simp [Value.ownBlock] at hk; omega)
theorem RowS.thereB_ {w : World} {B : Nat} {e : TypeId} {sz n c b : Nat} {rows : List (List Value)} (h : RowS w B e sz (.slice (some ⟨b, 0, none⟩) n c) rows) (o k : Nat) (hk : o + k ≤ n * sz) : thereB w b o k = true := by
  rcases h.2.2 with ⟨h1, _⟩ | ⟨g', cap', cur, h1, _, h3, h4, _, h6, _⟩
  · cases h1
  · injection h1 with h1 h2 h5
    injection h1 with h1
    injection h1 with h1 _ _
    subst h1
    unfold thereB
    rw [h3]
    simp only [decide_eq_true_eq]
    have h7 := h.lenOf
    have : n * sz ≤ cap' * sz := Nat.mul_le_mul_right _ (by omega)
    omega
/-- the first k of some records have results of their own -/
structure HalfR (w0 : World) (F : Nat → Prop) (l : List Recd) (rs : List RecdD) (w : World) (k : Nat) (lk : List Recd) : Prop where
  len : lk.length = l.length
  done : ∀ (j : Nat) (h : j < lk.length) (h' : j < rs.length), j < k → RecIs w (fun b => w0.heap.size ≤ b) lk[j] rs[j]
  rest : ∀ (j : Nat) (h : j < lk.length) (h' : j < l.length), k ≤ j → lk[j] = l[j]
theorem HalfR.start (w0 w : World) (F : Nat → Prop) (l : List Recd) (rs : List RecdD) : HalfR w0 F l rs w 0 l := ⟨rfl, fun _ _ _ h => absurd h (Nat.not_lt_zero _), fun _ _ _ _ => rfl⟩
theorem HalfR.next {w0 w w' : World} {F : Nat → Prop} {l : List Recd} {rs : List RecdD} {k : Nat} {lk : List Recd} (h : HalfR w0 F l rs w k lk) (hk : k < lk.length) (hk2 : k < rs.length) (r : Reply) (hT : Touch (TyIn w own33) w w') (hR : RepAt w' (fun b => w0.heap.size ≤ b) r rs[k].rep) (hE : lk[k].cred = rs[k].cred ∧ lk[k].begin_ = rs[k].beg ∧ lk[k].end_ = rs[k].fin ∧ lk[k].call = rs[k].call) :
    HalfR w0 F l rs w' (k + 1) (lk.set k { lk[k] with reply := r }) := by
  refine ⟨by rw [List.length_set]; exact h.len, fun j h1 h2 h3 => ?_, fun j h1 h2 h3 => ?_⟩
  · rw [List.length_set] at h1
    rw [List.getElem_set]
    split
    · next e =>
      subst e
      exact ⟨hE.1, hE.2.1, hE.2.2.1, hE.2.2.2, hR⟩
    · next e => exact (h.done j h1 h2 (by omega)).tou hT
  · rw [List.length_set] at h1
    rw [List.getElem_set]
    split
    · next e => omega
    · exact h.rest j h1 h2 (by omega)
set_option maxRecDepth 20000 in
set_option maxHeartbeats 1600000 in
theorem records33_any (F : Nat → Prop) (w : World) (g : Nat) (c : ClD) (z : Clnt) (l : List Recd) (hC : ClAt F w g c z l) (hrl : c.recs.length ≤ 1000000) :
    Calls Tryz.prog 15 #[.pointer (some ⟨g, 0, none⟩)] w fun e w' => ∃ v lk, e = .returned v ∧ RecsAt w' (fun b => w.heap.size ≤ b) v lk c.recs ∧ Below w.heap.size w w' := by
  have hll : l.length = c.recs.length := hC.rcs.len
  have hrow := hC.rcs.row
  have hzn : z.rn = l.length := by
    have := hrow.lenOf
    rw [List.length_map] at this
    exact this
  rw [hzn] at hrow
  have c55 : w.cell? ⟨g, 55, none⟩ = some (.slice z.ra l.length z.rc) := by rw [← hzn]; exact hC.blk.cell 55
  have KC := Lib.hid (cloneR33 z.ra z.rc l w (by omega) hrow.rows)
  have HC := Lib.hid hC
  have HLL := Lib.hid hll
  clear hrow hzn hC hll
  go_enter Tryz.func15, Tryz.ntmps15
  go_wp2_with fail
  refine KC.out.mono ?_
  rintro e w1 ⟨A, cap, rfl, hR, hb⟩
  have HR := Lib.hid hR
  have HB := Lib.hid hb
  clear hR hb KC c55
  go_wp2
  go_loopw [14] (fun i wr => ∃ (k : Nat) (lk : List Recd), k ≤ l.length ∧ i = .int .i64 k ∧ RowS wr w.heap.size 65 88 (.slice A l.length cap) (lk.map Recd.vals) ∧ HalfR w F l c.recs wr k lk ∧ Below w.heap.size w wr) (fun i _ => l.length - (intOf i).toNat)
  case atStart => exact ⟨0, l, Nat.zero_le _, rfl, HR.out, HalfR.start _ _ _ _ _, HB.out⟩
  case round =>
    obtain ⟨k, lk, hk, rfl, hR, hH, hB⟩ := hrel
    by_cases hlt : k < l.length
    · have hlk : k < lk.length := by rw [hH.len]; exact hlt
      have hkr : k < c.recs.length := by have := HLL.out; omega
      have hx := hH.rest k hlk hlt (Nat.le_refl _)
      have hI := HC.out.rcs.each k hlt hkr
      rw [← hx] at hI
      obtain ⟨b, rfl⟩ : ∃ b, A = some ⟨b, 0, none⟩ := by
        rcases hR.2.2 with ⟨h1, h2⟩ | ⟨g', cap', cur, h1, _⟩
        · rw [List.length_map] at h2; omega
        · injection h1 with h1 _ _
          exact ⟨g', h1⟩
      have hrr : rowOf wr b (k * 88 + 30) 58 = some lk[k].reply.vals.toArray := by
        obtain ⟨b2, o2, h1, h2, h3⟩ := hR.rows k lk[k].vals (by rw [List.getElem?_map, List.getElem?_eq_getElem hlk]; rfl)
        injection h1 with h1
        injection h1 with h4 h5 _
        subst h4 h5
        refine rowOf_of (fun j u hu => ?_) (Reply.len _) (by decide)
        have h6 := h3 (30 + j) u (by rw [← List.getElem?_drop, show lk[k].vals.drop 30 = lk[k].reply.vals from rfl]; exact hu)
        rw [show 0 + k * 88 + (30 + j) = k * 88 + 30 + j by omega] at h6
        exact h6
      have hrep := hI.rep
      have KR := Lib.hid (clone8_any ⟨lk[k].reply, c.recs[k].rep.es, c.recs[k].rep.us⟩ wr (hrep.there.below hB) hrep.le hrep.lu)
      have tB := Lib.hid (fun (V : World) (h : Below wr.heap.size wr V) => thereB_stays (hR.thereB_ (k * 88 + 30) 58 (by omega)) h)
      have hk0 : (0 : Int) ≤ (k : Int) := Int.natCast_nonneg _
      have hk1 : (k : Int) < (l.length : Int) := by omega
      have hkw : IntKind.i64.wrap ((k : Int) + 1) = ((k + 1 : Nat) : Int) := by rw [IntWalk.i64_in _ (by omega)]; omega
      have HK := Lib.hid (And.intro hR (And.intro hH (And.intro hB (And.intro hI hx))))
      have Hlk := Lib.hid (And.intro hlk hkr)
      clear hR hH hB hI hx hrep
      go_wp2_with fail
      refine KR.out.mono ?_
      rintro e w5 ⟨r, rfl, hbare, hth5, hE5, hU5, hb5⟩
      have t5 := tB.out w5 hb5
      have H5 := Lib.hid (And.intro hbare (And.intro hE5 (And.intro hU5 hb5)))
      clear hbare hth5 hE5 hU5 hb5 hrr KR
      go_wp2
      go_roundw
      case rel =>
        obtain ⟨hR, hH, hB, hI, hx⟩ := HK.out
        obtain ⟨hbare, hE5, hU5, hb5⟩ := H5.out
        obtain ⟨hlk, hkr⟩ := Hlk.out
        have hR5 := hR.stays hb5
        have hsp : lk = lk.take k ++ lk[k] :: lk.drop (k + 1) := by rw [← List.drop_eq_getElem_cons hlk, List.take_append_drop]
        have hset : lk.set k { lk[k] with reply := r } = lk.take k ++ { lk[k] with reply := r } :: lk.drop (k + 1) := by
          rw [List.set_eq_take_append_cons_drop, if_pos hlk]
        have hb88 : b < w5.heap.size := (hR5.lt b rfl).2
        have hty : Touch (TyIn w5 own33) w5 (putsW w5 b (k * 88 + 30) r.vals) := ((Touch.refl (fun j => j = b) w5).puts (k := b) (.inl rfl)).mono fun j _ hj => by
          subst hj
          obtain ⟨C, hC⟩ := own_ty hR5.2 j rfl
          exact ⟨C, _, _, hC, by decide⟩
        have hbB : w.heap.size ≤ b := (hR5.lt b rfl).1
        have hwr := hB.size
        have hln := hH.len
        refine ⟨k + 1, lk.set k { lk[k] with reply := r }, by omega, by go_num, ?_, ?_, ?_⟩
        · rw [hset, List.map_append, List.map_cons]
          have h1 := hR5
          rw [hsp, List.map_append, List.map_cons] at h1
          have h2 := RowS.putMid (a := lk[k].vals.take 30) (m := lk[k].reply.vals) (b := []) (r := r.vals) (pre := (lk.take k).map Recd.vals) (post := (lk.drop (k + 1)).map Recd.vals) (by
            rw [List.append_nil, show lk[k].vals.take 30 ++ lk[k].reply.vals = lk[k].vals from rfl]
            exact h1) (by rw [Reply.len, Reply.len]) (by simp; omega)
          rw [List.length_map, List.length_take, Nat.min_eq_left (by omega), show (lk[k].vals.take 30).length = 30 from rfl, ← putsW_eq, List.append_nil] at h2
          exact h2
        · have hH5 : HalfR w F l c.recs w5 k lk := ⟨hH.len, fun j h1 h2 h3 => (hH.done j h1 h2 h3).tou (Touch.of_below hb5 _), hH.rest⟩
          refine hH5.next hlk hkr r hty ?_ ⟨hI.cred, hI.beg, hI.fin, hI.call⟩
          have hz : RepAt w5 (fun b => w.heap.size ≤ b) r c.recs[k].rep := ⟨hbare.trans hI.rep.bare, hE5.base (Nat.zero_le _), hU5.base (Nat.zero_le _), fun j hj => Nat.le_trans hwr (hE5.lt j hj).1, fun j hj => Nat.le_trans hwr (hU5.lt j hj).1, hI.rep.le, hI.rep.lu⟩
          exact hz.tou hty
        · rw [putsW_eq]
          exact Below.setCells hbB _ _ _ (below_then hB hb5)
      case measure => simp [intOf]; omega
    · obtain rfl : k = l.length := by omega
      have HK := Lib.hid (And.intro hR (And.intro hH hB))
      clear hR hH hB
      go_wp2
      go_ret
      obtain ⟨hR, hH, hB⟩ := HK.out
      refine ⟨_, lk, rfl, ⟨hR.base (Nat.zero_le _), fun j hj => (hR.lt j hj).1, hH.len.trans HLL.out, fun i h1 h2 => hH.done i h1 h2 (by have := hH.len; omega)⟩, hB⟩
end Go.Proofs.YtfjflkmhhbhceaaGreatDoor
