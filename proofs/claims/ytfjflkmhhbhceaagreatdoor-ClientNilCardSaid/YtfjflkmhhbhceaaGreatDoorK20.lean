/-
  Layer 20, walks: is an entry's Cookie at most one; slices.IndexFunc with that. Conditions: machine lists.
-/
import Derived.Test.YtfjflkmhhbhceaaGreatDoorK19
import Derived.BigGuardPart
import Derived.Test.YtfjflkmhhbhceaaGreatDoorK09
namespace Go.Proofs.YtfjflkmhhbhceaaGreatDoor
open Go.RowKit
attribute [local go_sem ↓] Go.wp_at_zero Go.wp_at_succ
attribute [local go_sem] rowAt_ptr rowOf_drew rowOf_drewN rowOf_alloc_past rowOf_new
attribute [local go_sem ↓] ldEntry

attribute [local go_sem] Entry.at0 Entry.lat0 Entry.at1 Entry.lat1 Entry.at2 Entry.lat2 Entry.at3 Entry.lat3 Entry.at4 Entry.lat4 Entry.at5 Entry.lat5 Entry.at6 Entry.lat6 Entry.at7 Entry.lat7 Entry.at8 Entry.lat8 Entry.at9 Entry.lat9 Entry.at10 Entry.lat10 Entry.at11 Entry.lat11 Entry.at12 Entry.lat12 Entry.at13 Entry.lat13 Entry.at14 Entry.lat14 Entry.sub0_15 Entry.lsub0_15 Entry.sub3_11 Entry.lsub3_11 Entry.sub4_10 Entry.lsub4_10 Entry.len

/-- the first entry whose Cookie is at most that -/
def firstLe (ck : Int) (l : List Entry) : Nat := l.findIdx fun x => decide (x.cookie ≤ ck)
/-- its place; -1: there is none -/
def foundLe (ck : Int) (l : List Entry) : Int := if firstLe ck l < l.length then (firstLe ck l : Int) else -1

end Go.Proofs.YtfjflkmhhbhceaaGreatDoor

/-
  Layer 20, walks: slices.DeleteFunc of the entries whose Cookie is at most one, in a row of the call's own. Conditions: lengths.
-/
namespace Go.Proofs.YtfjflkmhhbhceaaGreatDoor
open Go.RowKit
attribute [local go_sem ↓] Go.wp_at_zero Go.wp_at_succ
attribute [local go_sem] rowAt_ptr rowOf_drew rowOf_drewN rowOf_alloc_past rowOf_new
attribute [local go_sem ↓] ldEntry

attribute [local go_sem] Entry.at0 Entry.lat0 Entry.at1 Entry.lat1 Entry.at2 Entry.lat2 Entry.at3 Entry.lat3 Entry.at4 Entry.lat4 Entry.at5 Entry.lat5 Entry.at6 Entry.lat6 Entry.at7 Entry.lat7 Entry.at8 Entry.lat8 Entry.at9 Entry.lat9 Entry.at10 Entry.lat10 Entry.at11 Entry.lat11 Entry.at12 Entry.lat12 Entry.at13 Entry.lat13 Entry.at14 Entry.lat14 Entry.sub0_15 Entry.lsub0_15 Entry.sub3_11 Entry.lsub3_11 Entry.sub4_10 Entry.lsub4_10 Entry.len

/-- the entries behind a Cookie -/
def behind (ck : Int) (l : List Entry) : List Entry := l.filter fun x => !decide (x.cookie ≤ ck)

theorem At.midRow {w : World} {sz : Nat} {A : Option Addr} {R S : List (List Value)} {r : List Value} (h : At w sz A (R ++ r :: S)) (hr : r.length = sz) (h0 : 0 < sz) :
    ∃ b off, A = some ⟨b, off, none⟩ ∧ b < w.heap.size ∧ rowOf w b (off + R.length * sz) sz = some r.toArray := by
  have hk : R.length < (R ++ r :: S).length := by simp
  obtain ⟨b, off, hA, hb, hc⟩ := h.range hk
  have e : (R ++ r :: S)[R.length] = r := by simp
  rw [e] at hc
  exact ⟨b, off, hA, hb, rowOf_of hc hr h0⟩

theorem RowS.thereRow {w : World} {B g cap n sz : Nat} {T : TypeId} {rows : List (List Value)} (h : RowS w B T sz (.slice (some ⟨g, 0, none⟩) n cap) rows) (hn : n = rows.length) (i k : Nat) (hk : i * sz + k ≤ n * sz) : w.there g (i * sz) k := by
  intro j hj
  have hown := h.2
  rw [← hn] at hown
  refine ⟨?_, hown.frozenAt _⟩
  rw [hown.cellAt _ (by omega)]
  rw [List.getElem?_eq_getElem (by have := hown.1; omega)]
  rfl

theorem behind_take {ck : Int} {l : List Entry} {k : Nat} (hk : k < l.length) : behind ck (l.take (k + 1)) = behind ck (l.take k) ++ if decide (l[k].cookie ≤ ck) then [] else [l[k]] := by
  unfold behind
  rw [take_next _ _ hk, List.filter_append]
  cases h : decide (l[k].cookie ≤ ck) <;> simp [h]

theorem firstLe_before {ck : Int} {l : List Entry} {j : Nat} (h : j < firstLe ck l) (hj : j < l.length) : decide (l[j].cookie ≤ ck) = false := by
  have h2 : j < l.findIdx fun x => decide (x.cookie ≤ ck) := h
  have := List.not_of_lt_findIdx h2
  simpa using this
theorem behind_first {ck : Int} {l : List Entry} (h : firstLe ck l < l.length) : behind ck (l.take (firstLe ck l + 1)) = l.take (firstLe ck l) := by
  have h1 : decide (l[firstLe ck l].cookie ≤ ck) = true := List.findIdx_getElem (w := h)
  rw [behind_take h, h1, if_pos rfl, List.append_nil]
  unfold behind
  rw [List.filter_eq_self]
  intro x hx
  obtain ⟨j, hj, rfl⟩ := List.getElem_of_mem hx
  rw [List.length_take] at hj
  rw [List.getElem_take, firstLe_before (by omega) (by omega)]
  rfl
theorem behind_none {ck : Int} {l : List Entry} (h : ¬ firstLe ck l < l.length) : behind ck l = l := by
  unfold behind
  rw [List.filter_eq_self]
  intro x hx
  obtain ⟨j, hj, rfl⟩ := List.getElem_of_mem hx
  rw [firstLe_before (by omega) hj]
  rfl

/-- a slice of no cells, or of cells in blocks from B on -/
def Fresh (B : Nat) (A : Option Addr) : Prop := ∀ p, A = some p → B ≤ p.block
/-- what DeleteFunc leaves -/
def DelPost (w : World) (B : Nat) (ck : Int) (l : List Entry) (e : Ending) (w' : World) : Prop :=
  ∃ A c, e = .returned (.slice A (behind ck l).length c) ∧ (behind ck l).length ≤ c ∧ At w' 15 A ((behind ck l).map Entry.vals) ∧ Below B w w' ∧ Fresh B A ∧ RowS w' B 126 15 (.slice A (behind ck l).length c) ((behind ck l).map Entry.vals)

theorem infoEntry2 : (Tryz.prog.info? 126).map (fun i => (i.zero, i.size)) = some (some (.agg (Entry.mk 0 [] 0 postZ8 []).vals.toArray), 15) := by kernel_rfl
/-- in DeleteFunc's loop: so many are kept (the first number), so many are looked at (the second) -/
def DelRel (w : World) (B g c : Nat) (ck : Int) (l : List Entry) (i j : Int) (W : World) : Prop :=
  ∃ (pre : List Entry) (mid : List (List Value)) (k : Nat), k ≤ l.length ∧ i = (pre.length : Int) ∧ j = (k : Int) ∧ pre = behind ck (l.take k) ∧ 0 < mid.length ∧ pre.length + mid.length = k ∧
    RowS W B 126 15 (.slice (some ⟨g, 0, none⟩) l.length c) (pre.map Entry.vals ++ (mid ++ (l.drop k).map Entry.vals)) ∧ Below B w W
theorem DelRel.stays {w W W' : World} {B g c : Nat} {ck : Int} {l : List Entry} {i j : Int} (h : DelRel w B g c ck l i j W) (hb : Below W.heap.size W W') (hB : B ≤ W.heap.size) : DelRel w B g c ck l i j W' := by
  obtain ⟨pre, mid, k, h1, h2, h3, h4, h5, h6, h7, h8⟩ := h
  exact ⟨pre, mid, k, h1, h2, h3, h4, h5, h6, h7.stays hb, h8.trans (hb.mono hB)⟩

end Go.Proofs.YtfjflkmhhbhceaaGreatDoor


/-
  A part of a struct in a row of the call's own is stored anew; a store as a step of a region that draws its order. Conditions: sizes.
-/
namespace Go.Proofs.YtfjflkmhhbhceaaGreatDoor
open Go.RowKit

section
variable {w w' : World} {B : Nat} {e : TypeId} {sz : Nat}
theorem RowS.thereAt {g cap n : Nat} {rows : List (List Value)} (h : RowS w B e sz (.slice (some ⟨g, 0, none⟩) n cap) rows) (hn : n = rows.length) (o k : Nat) (hk : o + k ≤ n * sz) : w.there g o k := by
  intro j hj
  have hown := h.2
  rw [← hn] at hown
  refine ⟨?_, hown.frozenAt _⟩
  rw [hown.cellAt _ (by omega)]
  rw [List.getElem?_eq_getElem (by have := hown.1; omega)]
  rfl
/-- some cells of one row are stored anew -/
theorem RowS.putMid {g n cap : Nat} {pre post : List (List Value)} {a m b r : List Value} (h : RowS w B e sz (.slice (some ⟨g, 0, none⟩) n cap) (pre ++ (a ++ (m ++ b)) :: post)) (hr : m.length = r.length) (hn : n = (pre ++ (a ++ (m ++ b)) :: post).length) :
    RowS (w.setCells g (pre.length * sz + a.length) r) B e sz (.slice (some ⟨g, 0, none⟩) n cap) (pre ++ (a ++ (r ++ b)) :: post) := by
  obtain ⟨hl, hown⟩ := h
  have hm : (a ++ (m ++ b)).length = sz := hl _ (by simp)
  have hlp : ∀ q ∈ pre, q.length = sz := fun q hq => hl q (by simp [hq])
  have hpl : pre.flatten.length = pre.length * sz := by
    clear hown hl hn
    induction pre with
    | nil => simp
    | cons q pre ih =>
      rw [List.flatten_cons, List.length_append, hlp q (by simp), ih (fun q hq => hlp q (List.mem_cons_of_mem _ hq)), List.length_cons, Nat.succ_mul]
      omega
  refine ⟨fun q hq => ?_, ?_⟩
  · rcases List.mem_append.1 hq with hq | hq
    · exact hlp q hq
    · rcases List.mem_cons.1 hq with rfl | hq
      · simp only [List.length_append] at hm ⊢; omega
      · exact hl q (by simp [hq])
  · rw [← hn] at hown
    have := ownsRow_sets r _ (pre.length * sz + a.length) hown
    have e1 : (pre ++ (a ++ (r ++ b)) :: post).length = n := by rw [hn]; simp
    have e2 : setAt (pre ++ (a ++ (m ++ b)) :: post).flatten (pre.length * sz + a.length) r = (pre ++ (a ++ (r ++ b)) :: post).flatten := by
      have e3 : ∀ x : List Value, (pre ++ (a ++ (x ++ b)) :: post).flatten = (pre.flatten ++ a) ++ (x ++ (b ++ post.flatten)) := fun x => by
        rw [List.flatten_append, List.flatten_cons]
        simp only [List.append_assoc]
      have e4 : pre.length * sz + a.length = (pre.flatten ++ a).length := by rw [List.length_append, hpl]
      rw [e3, e3, e4, setAt_mid r m _ _ hr]
    rw [e2] at this
    rw [e1]
    exact this
theorem RowS.le {v : Value} {rows : List (List Value)} (h : RowS w B e sz v rows) : rows.length ≤ maxLen := by
  rcases h.2.2 with ⟨_, h2⟩ | ⟨g, cap, cur, _, _, _, h3, h4, _⟩
  · omega
  · omega
variable {P : Program}
theorem run_storeVar_cells (w : World) (b o : Nat) (ty : TypeId) (v : Value) (cs : List Value) (hv : v.cells = cs.toArray) (ht : w.there b o cs.length) (hi : (P.info? ty).map (·.size) = some cs.length) (h1 : ∀ u ∈ cs, u.oneCell' = true) :
    (storeVar ty ⟨b, o, none⟩ v).run P w = .ok () (w.setCells b o cs) := by
  have := run_storeCells_cells (P := P) b o cs 0 w (fun j hj => by simpa using (ht j hj).1) (fun j hj => by simpa using (ht j hj).2) h1
  cases hq : P.info? ty with
  | none => simp [hq] at hi
  | some i =>
    have hs : cs.length = i.size := by simp [hq] at hi; omega
    simp only [Nat.add_zero] at this
    simp [storeVar, sizeOf, typeInfo, hq, hv, hs, this]
/-- a store where cells lie, as a step of a region that draws its order -/
theorem step_store_there {ops : Array Oper} {o : Oper} {a : Act} {w : World} {K : Act → World → Prop} {Q : Exit → Act → World → Prop} {E : Prop} {T : TypeId} {x y : Operand} (hgd : o.guard = none) (ho : o.op = .store T x y)
    {b i : Nat} (v : Value) (cs : List Value) (hx : a.eval x = .pointer (some ⟨b, i, none⟩)) (hy : a.eval y = v) (hv : v.cells = cs.toArray) (ht : w.there b i cs.length) (hi : (P.info? T).map (·.size) = some cs.length)
    (h1 : ∀ v ∈ cs, v.oneCell' = true) (h : K (a.put o.dst undef) (w.setCells b i cs)) : if Region.wanted o (yielded ops a.tmps) = true then Oper.wp P o a w K Q else E := by
  have hw : Region.wanted o (yielded ops a.tmps) = true := by simp [Region.wanted, hgd]
  rw [if_pos hw]
  unfold Oper.wp execOp
  simp only [ho, hx, hy, Instr.storeAt, Instr.sureAddr, Sem.run_bind, Sem.run_pure, Result.andThen_ok, run_storeVar_cells w b i T v cs hv ht hi h1]
  exact h
/-- the same; what is said of the world that comes of it is all that is kept of it -/
theorem step_store_say {ops : Array Oper} {o : Oper} {a : Act} {w : World} {K : Act → World → Prop} {Q : Exit → Act → World → Prop} {E : Prop} {T : TypeId} {x y : Operand} (hgd : o.guard = none) (ho : o.op = .store T x y)
    {b i : Nat} (v : Value) (cs : List Value) (hx : a.eval x = .pointer (some ⟨b, i, none⟩)) (hy : a.eval y = v) (hv : v.cells = cs.toArray) (ht : w.there b i cs.length) (hi : (P.info? T).map (·.size) = some cs.length)
    (h1 : ∀ v ∈ cs, v.oneCell' = true) (R : World → Prop) (hR : R (w.setCells b i cs)) (h : ∀ V, R V → K (a.put o.dst undef) V) : if Region.wanted o (yielded ops a.tmps) = true then Oper.wp P o a w K Q else E :=
  step_store_there hgd ho v cs hx hy hv ht hi h1 (h _ hR)
end

def ptrAt : Value → Bool
  | .pointer (some ⟨_, _, none⟩) => true
  | _ => false
def blkAt : Value → Nat
  | .pointer (some ⟨b, _, _⟩) => b
  | _ => 0
def offAt : Value → Nat
  | .pointer (some ⟨_, o, _⟩) => o
  | _ => 0
theorem ptrAt_eq {v : Value} (h : ptrAt v = true) : v = .pointer (some ⟨blkAt v, offAt v, none⟩) := by
  unfold ptrAt at h
  split at h
  · rfl
  · cases h
/-- a value of n cells, to be stored as a whole -/
def rowOk (n : Nat) (v : Value) : Prop := v.cells.toList.length = n ∧ ∀ u ∈ v.cells.toList, u.oneCell' = true
/-- cells are set: a name that is not taken apart by itself -/
@[irreducible] def putsW (w : World) (b o : Nat) (cs : List Value) : World := w.setCells b o cs
theorem putsW_eq (w : World) (b o : Nat) (cs : List Value) : putsW w b o cs = w.setCells b o cs := by unfold putsW; rfl
/-- a store into cells that lie there, as a rule of the walk's own simp -/
theorem exStoreAt {P : Program} {T : TypeId} {n : Nat} (hi : (P.info? T).map (·.size) = some n) {ρ : Operand → Value} {w : World} {dst : Option Tmp} {ty : TypeId} {pos : String} {after : Array Edge} {g : Option (Nat × Bool)} {x y : Operand} (hx : ptrAt (ρ x) = true) (hy : rowOk n (ρ y)) (ht : w.there (blkAt (ρ x)) (offAt (ρ x)) n) :
    (execOp ρ ⟨dst, .store T x y, ty, pos, after, g⟩).run P w = .ok .skip (putsW w (blkAt (ρ x)) (offAt (ρ x)) (ρ y).cells.toList) := by
  rw [putsW_eq]
  have hp := ptrAt_eq hx
  generalize blkAt (ρ x) = b at *
  generalize offAt (ρ x) = o at *
  unfold execOp
  simp only [hp, Instr.storeAt, Instr.sureAddr, Sem.run_bind, Sem.run_pure, Result.andThen_ok, run_storeVar_cells (P := P) w b o T (ρ y) (ρ y).cells.toList (by simp) (by rw [hy.1]; exact ht) (by rw [hy.1]; exact hi) hy.2]

/-- one entry of a page, while it is filled in -/
structure Pag (W0 W : World) (B g n c : Nat) (pre post : List Entry) (x : Entry) : Prop where
  row : RowS W B 126 15 (.slice (some ⟨g, 0, none⟩) n c) ((pre ++ x :: post).map Entry.vals)
  len : n = (pre ++ x :: post).length
  low : Below B W0 W
theorem Pag.call {W0 W W' : World} {B g n c : Nat} {pre post : List Entry} {x : Entry} (h : Pag W0 W B g n c pre post x) (hb : Below W.heap.size W W') : Pag W0 W' B g n c pre post x :=
  ⟨h.row.stays hb, h.len, h.low.trans (hb.mono (by have := h.row.lt g rfl; omega))⟩
theorem Pag.drew {W0 W : World} {B g n c : Nat} {pre post : List Entry} {x : Entry} (h : Pag W0 W B g n c pre post x) : Pag W0 W.drew B g n c pre post x := h.call (Below.refl _ _).drew
theorem Pag.attr {W0 W : World} {B g n c : Nat} {pre post : List Entry} {x : Entry} (h : Pag W0 W B g n c pre post x) (p : Post) {o : Nat} (ho : o = pre.length * 15 + 3) : Pag W0 (W.setCells g o p.vals) B g n c pre post { x with attr := p } := by
  subst ho
  have hr := h.row
  rw [List.map_append, List.map_cons] at hr
  have := RowS.putMid (pre := pre.map Entry.vals) (post := post.map Entry.vals) (a := [.int .i64 x.gen, .string (bs x.name), .int .i64 x.cookie]) (m := x.attr.vals) (b := [.string (bs x.fh)]) (r := p.vals) hr rfl (by have := h.len; simp at this ⊢; omega)
  rw [List.length_map] at this
  exact ⟨by rw [List.map_append, List.map_cons]; exact this, h.len.trans (by simp), Below.setCells (h.row.lt g rfl).1 _ _ _ h.low⟩
theorem Pag.fh {W0 W : World} {B g n c : Nat} {pre post : List Entry} {x : Entry} (h : Pag W0 W B g n c pre post x) (s : List UInt8) {o : Nat} (ho : o = pre.length * 15 + 14) : Pag W0 (W.setCells g o [.string (bs s)]) B g n c pre post { x with fh := s } := by
  subst ho
  have hr := h.row
  rw [List.map_append, List.map_cons] at hr
  have := RowS.putMid (pre := pre.map Entry.vals) (post := post.map Entry.vals) (a := [.int .i64 x.gen, .string (bs x.name), .int .i64 x.cookie] ++ x.attr.vals) (m := [.string (bs x.fh)]) (b := []) (r := [.string (bs s)]) (by rw [List.append_nil, List.append_assoc]; exact hr) rfl (by have := h.len; simp at this ⊢; omega)
  rw [List.length_map, List.append_nil, List.append_assoc] at this
  exact ⟨by rw [List.map_append, List.map_cons]; exact this, h.len.trans (by simp), Below.setCells (h.row.lt g rfl).1 _ _ _ h.low⟩
theorem Pag.attrP {W0 W : World} {B g n c : Nat} {pre post : List Entry} {x : Entry} (h : Pag W0 W B g n c pre post x) (p : Post) {o : Nat} (ho : o = pre.length * 15 + 3) : Pag W0 (putsW W g o p.vals) B g n c pre post { x with attr := p } := by
  rw [putsW_eq]
  exact h.attr p ho
theorem Pag.fhP {W0 W : World} {B g n c : Nat} {pre post : List Entry} {x : Entry} (h : Pag W0 W B g n c pre post x) (s : List UInt8) {o : Nat} (ho : o = pre.length * 15 + 14) : Pag W0 (putsW W g o [.string (bs s)]) B g n c pre post { x with fh := s } := by
  rw [putsW_eq]
  exact h.fh s ho
theorem Pag.there {W0 W : World} {B g n c : Nat} {pre post : List Entry} {x : Entry} (h : Pag W0 W B g n c pre post x) {o k : Nat} (ho : o + k ≤ (pre.length + 1) * 15) : W.there g o k :=
  h.row.thereAt (by have := h.len; simp at this ⊢; omega) o k (Nat.le_trans ho (Nat.mul_le_mul_right _ (by have := h.len; simp at this; omega)))
theorem Pag.gen {W0 W : World} {B g n c : Nat} {pre post : List Entry} {x : Entry} (h : Pag W0 W B g n c pre post x) : W.cell? ⟨g, pre.length * 15, none⟩ = some (.int .i64 x.gen) := by
  obtain ⟨b, off, hA, -, -, hc⟩ := rowCell8 (l := pre ++ x :: post) (k := pre.length) Entry.len (by omega) h.row.rows (by simp)
  injection hA with hA
  injection hA with h1 h2 h3
  subst h1 h2
  have := hc 0 (.int .i64 x.gen) (by simp; rfl)
  simpa using this
end Go.Proofs.YtfjflkmhhbhceaaGreatDoor


/-
  Layer 8, walks: the document's Large (what it says no to is short). Conditions: machine lists.
-/
namespace Go.Proofs.YtfjflkmhhbhceaaGreatDoor
open Go.RowKit
attribute [local go_sem ↓] Go.wp_at_zero Go.wp_at_succ
attribute [local go_sem] rowAt_ptr rowOf_drew rowOf_drewN rowOf_alloc_past rowOf_new
attribute [local go_sem ↓] ldReply

attribute [local go_sem] Reply.at0 Reply.lat0 Reply.at1 Reply.lat1 Reply.at2 Reply.lat2 Reply.at3 Reply.lat3 Reply.at4 Reply.lat4 Reply.at5 Reply.lat5 Reply.at6 Reply.lat6 Reply.at7 Reply.lat7 Reply.at8 Reply.lat8 Reply.at9 Reply.lat9 Reply.at10 Reply.lat10 Reply.at11 Reply.lat11 Reply.at12 Reply.lat12 Reply.at13 Reply.lat13 Reply.at14 Reply.lat14 Reply.at15 Reply.lat15 Reply.at16 Reply.lat16 Reply.at17 Reply.lat17 Reply.at18 Reply.lat18 Reply.at19 Reply.lat19 Reply.at20 Reply.lat20 Reply.at21 Reply.lat21 Reply.at22 Reply.lat22 Reply.at23 Reply.lat23 Reply.at24 Reply.lat24 Reply.at25 Reply.lat25 Reply.at26 Reply.lat26 Reply.at27 Reply.lat27 Reply.at28 Reply.lat28 Reply.at29 Reply.lat29 Reply.at30 Reply.lat30 Reply.at31 Reply.lat31 Reply.at32 Reply.lat32 Reply.at33 Reply.lat33 Reply.at34 Reply.lat34 Reply.at35 Reply.lat35 Reply.at36 Reply.lat36 Reply.at37 Reply.lat37 Reply.at38 Reply.lat38 Reply.at39 Reply.lat39 Reply.at40 Reply.lat40 Reply.at41 Reply.lat41 Reply.at42 Reply.lat42 Reply.at43 Reply.lat43 Reply.at44 Reply.lat44 Reply.at45 Reply.lat45 Reply.at46 Reply.lat46 Reply.at47 Reply.lat47 Reply.at48 Reply.lat48 Reply.at49 Reply.lat49 Reply.at50 Reply.lat50 Reply.at51 Reply.lat51 Reply.at52 Reply.lat52 Reply.at53 Reply.lat53 Reply.at54 Reply.lat54 Reply.at55 Reply.lat55 Reply.at56 Reply.lat56 Reply.at57 Reply.lat57 Reply.sub0_58 Reply.lsub0_58 Reply.sub2_11 Reply.lsub2_11 Reply.sub3_10 Reply.lsub3_10 Reply.sub13_11 Reply.lsub13_11 Reply.sub14_10 Reply.lsub14_10 Reply.sub24_13 Reply.lsub24_13 Reply.sub24_2 Reply.lsub24_2 Reply.sub26_11 Reply.lsub26_11 Reply.sub27_10 Reply.lsub27_10 Reply.sub37_13 Reply.lsub37_13 Reply.sub37_2 Reply.lsub37_2 Reply.sub39_11 Reply.lsub39_11 Reply.sub40_10 Reply.lsub40_10 Reply.len Entry.at0 Entry.lat0 Entry.at1 Entry.lat1 Entry.at2 Entry.lat2 Entry.at3 Entry.lat3 Entry.at4 Entry.lat4 Entry.at5 Entry.lat5 Entry.at6 Entry.lat6 Entry.at7 Entry.lat7 Entry.at8 Entry.lat8 Entry.at9 Entry.lat9 Entry.at10 Entry.lat10 Entry.at11 Entry.lat11 Entry.at12 Entry.lat12 Entry.at13 Entry.lat13 Entry.at14 Entry.lat14 Entry.sub0_15 Entry.lsub0_15 Entry.sub3_11 Entry.lsub3_11 Entry.sub4_10 Entry.lsub4_10 Entry.len

/-- what Large tells: where it says no, these are short -/
def SaysL (n m : Nat) (w : World) (e : Ending) (w' : World) : Prop := ∃ b, e = .returned (.bool b) ∧ (b = false → n ≤ 70 ∧ m ≤ 30) ∧ Below w.heap.size w w'
theorem SaysL.of {n m : Nat} {w w' : World} (b : Bool) (h : b = false → n ≤ 70 ∧ m ≤ 30) (hb : Below w.heap.size w w') : SaysL n m w (.returned (.bool b)) w' := ⟨b, rfl, h, hb⟩
set_option maxRecDepth 20000 in
set_option maxHeartbeats 1600000 in
theorem refLarge8_any (x : RepL) (w : World) (hx : x.There w) :
    Calls Tryz.prog 24 #[.agg x.r.vals.toArray] w (SaysL x.es.length x.us.length w) := by
  obtain ⟨x, l, p⟩ := x
  obtain ⟨ne, nu, le, lu, hAe, -⟩ := hx
  simp only at ne nu le lu hAe ⊢
  have hB : Below w.heap.size w (w.alloc (.cells x.vals.toArray 51)) := (Below.refl _ _).alloc (Nat.le_refl _) _
  have hX := Blk.new w 51 x.vals
  have hAe := hAe.below hB
  go_enter Tryz.func24, Tryz.ntmps24
  go_wp2
  generalize w.alloc (.cells x.vals.toArray 51) = w1 at *
  have a56 : w1.cell? ⟨w.heap.size, 56, none⟩ = some (.slice x.ea l.length x.ec) := by rw [hX.cell 56, ← ne]; rfl
  have a57 : w1.cell? ⟨w.heap.size, 57, none⟩ = some (.slice x.ua p.length x.uc) := by rw [hX.cell 57, ← nu]; rfl
  have a1 : w1.cell? ⟨w.heap.size, 1, none⟩ = some (.string (bs x.fh)) := hX.cell 1
  have a50 : w1.cell? ⟨w.heap.size, 53, none⟩ = some (.string (bs x.data)) := hX.cell 53
  have zf := bs_size x.fh
  have zd := bs_size x.data
  have hltX := hX.lt
  have HB := Lib.hid hB
  clear hB hX ne nu
  generalize x.ea = xa at *
  generalize x.ua = xu at *
  generalize x.ec = xc at *
  generalize x.uc = xd at *
  generalize x.fh = fh at *
  generalize x.data = dt at *
  go_loop [3] (fun i => ∃ k : Nat, k ≤ l.length ∧ k ≤ 70 ∧ i = .int .i64 k) (fun i => l.length - (intOf i).toNat)
  case atStart => exact ⟨0, Nat.zero_le _, by omega, rfl⟩
  case round =>
    obtain ⟨k, hk, hk7, rfl⟩ := hrel
    by_cases hlt : k < l.length ∧ k < 70
    · obtain ⟨hlt, hlt7⟩ := hlt
      obtain ⟨b, off, rfl, hb, -, hc⟩ := rowCell8 Entry.len (by omega) hAe hlt
      have c1 := hc 1 (.string (bs l[k].name)) rfl
      have c4 := hc 14 (.string (bs l[k].fh)) rfl
      have z1 := bs_size l[k].name
      have z4 := bs_size l[k].fh
      clear hc hAe
      generalize l[k] = y at *
      go_wp2
      case roundEnd =>
        go_round
        case rel => exact ⟨k + 1, by omega, by omega, by go_num⟩
        case measure => simp [intOf]; omega
      all_goals (go_ret; exact SaysL.of true (fun h => by cases h) HB.out)
    · have hE : l.length ≤ k ∨ 70 ≤ k := by omega
      clear hlt hAe
      by_cases h1 : k < l.length
      · have p1 : (k : Int) < (l.length : Int) := by omega
        have p2 : ¬ (k : Int) < 70 := by omega
        have p3 : (70 : Int) < (l.length : Int) := by omega
        clear hE h1
        go_wp2
        all_goals (go_ret; exact SaysL.of true (fun h => by cases h) HB.out)
      · have p1 : ¬ (k : Int) < (l.length : Int) := by omega
        have p3 : ¬ (70 : Int) < (l.length : Int) := by omega
        clear hE h1
        go_wp2
        all_goals (go_ret; first | exact SaysL.of true (fun h => by cases h) HB.out | exact SaysL.of _ (fun _ => by omega) HB.out)
end Go.Proofs.YtfjflkmhhbhceaaGreatDoor
