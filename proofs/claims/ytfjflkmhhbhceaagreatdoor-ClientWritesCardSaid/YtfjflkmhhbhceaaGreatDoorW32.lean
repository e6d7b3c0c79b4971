/-
  Layer 20, walks: is an entry's Cookie at most one; slices.IndexFunc with that. Conditions: machine lists.
-/
import Derived.Test.YtfjflkmhhbhceaaGreatDoorW21
import Derived.BigGuardPart
import Derived.Test.YtfjflkmhhbhceaaGreatDoorW06
namespace Go.Proofs.YtfjflkmhhbhceaaGreatDoor
open Go.RowKit
end Go.Proofs.YtfjflkmhhbhceaaGreatDoor

/-
  Layer 20, walks: slices.DeleteFunc of the entries whose Cookie is at most one, in a row of the call's own. Conditions: lengths.
-/
namespace Go.Proofs.YtfjflkmhhbhceaaGreatDoor
open Go.RowKit
attribute [local go_sem ↓] Go.wp_at_zero Go.wp_at_succ
attribute [local go_sem] rowAt_ptr rowOf_drew rowOf_drewN rowOf_alloc_past rowOf_new
attribute [local go_sem ↓] ldEntry

attribute [local go_sem] Entry.at0 Entry.lat0 Entry.at1 Entry.lat1 Entry.at2 Entry.lat2 Entry.at3 Entry.lat3 Entry.at4 Entry.lat4 Entry.at5 Entry.lat5 Entry.at6 Entry.lat6 Entry.at7 Entry.lat7 Entry.at8 Entry.lat8 Entry.at9 Entry.lat9 Entry.at10 Entry.lat10 Entry.at11 Entry.lat11 Entry.at12 Entry.lat12 Entry.at13 Entry.lat13 Entry.at14 Entry.lat14 Entry.sub0_15 Entry.lsub0_15 Entry.sub3_11 Entry.lsub3_11 Entry.sub4_10 Entry.lsub4_10 Entry.len

/-- the entries behind a Cookie -/
def behind (ck : Int) (l : List Entry) : List Entry := l.filter fun x => !decide (x.cookie ≤ ck)

/-- in DeleteFunc's loop: so many are kept (the first number), so many are looked at (the second) -/
def DelRel (w : World) (B g c : Nat) (ck : Int) (l : List Entry) (i j : Int) (W : World) : Prop :=
  ∃ (pre : List Entry) (mid : List (List Value)) (k : Nat), k ≤ l.length ∧ i = (pre.length : Int) ∧ j = (k : Int) ∧ pre = behind ck (l.take k) ∧ 0 < mid.length ∧ pre.length + mid.length = k ∧
    RowS W B 126 15 (.slice (some ⟨g, 0, none⟩) l.length c) (pre.map Entry.vals ++ (mid ++ (l.drop k).map Entry.vals)) ∧ Below B w W
theorem DelRel.stays {w W W' : World} {B g c : Nat} {ck : Int} {l : List Entry} {i j : Int} (h : DelRel w B g c ck l i j W) (hb : Below W.heap.size W W') (hB : B ≤ W.heap.size) : DelRel w B g c ck l i j W' := by
  obtain ⟨pre, mid, k, h1, h2, h3, h4, h5, h6, h7, h8⟩ := h
  exact ⟨pre, mid, k, h1, h2, h3, h4, h5, h6, h7.stays hb, h8.trans (hb.mono hB)⟩

end Go.Proofs.YtfjflkmhhbhceaaGreatDoor


/-
  A part of a struct in a row of the call's own is stored anew; a store as a step of a region that draws its order. Conditions: sizes.
-/
namespace Go.Proofs.YtfjflkmhhbhceaaGreatDoor
open Go.RowKit

section
variable {w w' : World} {B : Nat} {e : TypeId} {sz : Nat}
theorem RowS.thereAt {g cap n : Nat} {rows : List (List Value)} (h : RowS w B e sz (.slice (some ⟨g, 0, none⟩) n cap) rows) (hn : n = rows.length) (o k : Nat) (hk : o + k ≤ n * sz) : w.there g o k := by
  intro j hj
  have hown := h.2
  rw [← hn] at hown
  refine ⟨?_, hown.frozenAt _⟩
  rw [hown.cellAt _ (by omega)]
  rw [List.getElem?_eq_getElem (by have := hown.1; omega)]
  rfl
/-- some cells of one row are stored anew -/
theorem RowS.putMid {g n cap : Nat} {pre post : List (List Value)} {a m b r : List Value} (h : RowS w B e sz (.slice (some ⟨g, 0, none⟩) n cap) (pre ++ (a ++ (m ++ b)) :: post)) (hr : m.length = r.length) (hn : n = (pre ++ (a ++ (m ++ b)) :: post).length) :
    RowS (w.setCells g (pre.length * sz + a.length) r) B e sz (.slice (some ⟨g, 0, none⟩) n cap) (pre ++ (a ++ (r ++ b)) :: post) := by
  obtain ⟨hl, hown⟩ := h
  have hm : (a ++ (m ++ b)).length = sz := hl _ (by simp)
  have hlp : ∀ q ∈ pre, q.length = sz := fun q hq => hl q (by simp [hq])
  have hpl : pre.flatten.length = pre.length * sz := by
    clear hown hl hn
    induction pre with
    | nil => simp
    | cons q pre ih =>
      rw [List.flatten_cons, List.length_append, hlp q (by simp), ih (fun q hq => hlp q (List.mem_cons_of_mem _ hq)), List.length_cons, Nat.succ_mul]
      omega
  refine ⟨fun q hq => ?_, ?_⟩
  · rcases List.mem_append.1 hq with hq | hq
    · exact hlp q hq
    · rcases List.mem_cons.1 hq with rfl | hq
      · simp only [List.length_append] at hm ⊢; omega
      · exact hl q (by simp [hq])
  · rw [← hn] at hown
    have := ownsRow_sets r _ (pre.length * sz + a.length) hown
    have e1 : (pre ++ (a ++ (r ++ b)) :: post).length = n := by rw [hn]; simp
    have e2 : setAt (pre ++ (a ++ (m ++ b)) :: post).flatten (pre.length * sz + a.length) r = (pre ++ (a ++ (r ++ b)) :: post).flatten := by
      have e3 : ∀ x : List Value, (pre ++ (a ++ (x ++ b)) :: post).flatten = (pre.flatten ++ a) ++ (x ++ (b ++ post.flatten)) := fun x => by
        rw [List.flatten_append, List.flatten_cons]
        simp only [List.append_assoc]
      have e4 : pre.length * sz + a.length = (pre.flatten ++ a).length := by rw [List.length_append, hpl]
      rw [e3, e3, e4, setAt_mid r m _ _ hr]
    rw [e2] at this
    rw [e1]
    exact this
theorem RowS.le {v : Value} {rows : List (List Value)} (h : RowS w B e sz v rows) : rows.length ≤ maxLen := by
  rcases h.2.2 with ⟨_, h2⟩ | ⟨g, cap, cur, _, _, _, h3, h4, _⟩
  · omega
  · omega
variable {P : Program}
theorem run_storeVar_cells (w : World) (b o : Nat) (ty : TypeId) (v : Value) (cs : List Value) (hv : v.cells = cs.toArray) (ht : w.there b o cs.length) (hi : (P.info? ty).map (·.size) = some cs.length) (h1 : ∀ u ∈ cs, u.oneCell' = true) :
    (storeVar ty ⟨b, o, none⟩ v).run P w = .ok () (w.setCells b o cs) := by
  have := run_storeCells_cells (P := P) b o cs 0 w (fun j hj => by simpa using (ht j hj).1) (fun j hj => by simpa using (ht j hj).2) h1
  cases hq : P.info? ty with
  | none => simp [hq] at hi
  | some i =>
    have hs : cs.length = i.size := by simp [hq] at hi; omega
    simp only [Nat.add_zero] at this
    simp [storeVar, sizeOf, typeInfo, hq, hv, hs, this]
end

def ptrAt : Value → Bool
  | .pointer (some ⟨_, _, none⟩) => true
  | _ => false
def blkAt : Value → Nat
  | .pointer (some ⟨b, _, _⟩) => b
  | _ => 0
def offAt : Value → Nat
  | .pointer (some ⟨_, o, _⟩) => o
  | _ => 0
theorem ptrAt_eq {v : Value} (h : ptrAt v = true) : v = .pointer (some ⟨blkAt v, offAt v, none⟩) := by
  unfold ptrAt at h
  split at h
  · rfl
  · cases h
/-- a value of n cells, to be stored as a whole -/
def rowOk (n : Nat) (v : Value) : Prop := v.cells.toList.length = n ∧ ∀ u ∈ v.cells.toList, u.oneCell' = true
/-- cells are set: a name that is not taken apart by itself -/
@[irreducible] def putsW (w : World) (b o : Nat) (cs : List Value) : World := w.setCells b o cs
theorem putsW_eq (w : World) (b o : Nat) (cs : List Value) : putsW w b o cs = w.setCells b o cs := by unfold putsW; rfl
/-- a store into cells that lie there, as a rule of the walk's own simp -/
theorem exStoreAt {P : Program} {T : TypeId} {n : Nat} (hi : (P.info? T).map (·.size) = some n) {ρ : Operand → Value} {w : World} {dst : Option Tmp} {ty : TypeId} {pos : String} {after : Array Edge} {g : Option (Nat × Bool)} {x y : Operand} (hx : ptrAt (ρ x) = true) (hy : rowOk n (ρ y)) (ht : w.there (blkAt (ρ x)) (offAt (ρ x)) n) :
    (execOp ρ ⟨dst, .store T x y, ty, pos, after, g⟩).run P w = .ok .skip (putsW w (blkAt (ρ x)) (offAt (ρ x)) (ρ y).cells.toList) := by
  rw [putsW_eq]
  have hp := ptrAt_eq hx
  generalize blkAt (ρ x) = b at *
  generalize offAt (ρ x) = o at *
  unfold execOp
  simp only [hp, Instr.storeAt, Instr.sureAddr, Sem.run_bind, Sem.run_pure, Result.andThen_ok, run_storeVar_cells (P := P) w b o T (ρ y) (ρ y).cells.toList (by simp) (by rw [hy.1]; exact ht) (by rw [hy.1]; exact hi) hy.2]

/-- one entry of a page, while it is filled in -/
structure Pag (W0 W : World) (B g n c : Nat) (pre post : List Entry) (x : Entry) : Prop where
  row : RowS W B 126 15 (.slice (some ⟨g, 0, none⟩) n c) ((pre ++ x :: post).map Entry.vals)
  len : n = (pre ++ x :: post).length
  low : Below B W0 W
theorem Pag.call {W0 W W' : World} {B g n c : Nat} {pre post : List Entry} {x : Entry} (h : Pag W0 W B g n c pre post x) (hb : Below W.heap.size W W') : Pag W0 W' B g n c pre post x :=
  ⟨h.row.stays hb, h.len, h.low.trans (hb.mono (by have := h.row.lt g rfl; omega))⟩
theorem Pag.drew {W0 W : World} {B g n c : Nat} {pre post : List Entry} {x : Entry} (h : Pag W0 W B g n c pre post x) : Pag W0 W.drew B g n c pre post x := h.call (Below.refl _ _).drew
theorem Pag.attr {W0 W : World} {B g n c : Nat} {pre post : List Entry} {x : Entry} (h : Pag W0 W B g n c pre post x) (p : Post) {o : Nat} (ho : o = pre.length * 15 + 3) : Pag W0 (W.setCells g o p.vals) B g n c pre post { x with attr := p } := by
  subst ho
  have hr := h.row
  rw [List.map_append, List.map_cons] at hr
  have := RowS.putMid (pre := pre.map Entry.vals) (post := post.map Entry.vals) (a := [.int .i64 x.gen, .string (bs x.name), .int .i64 x.cookie]) (m := x.attr.vals) (b := [.string (bs x.fh)]) (r := p.vals) hr rfl (by have := h.len; simp at this ⊢; omega)
  rw [List.length_map] at this
  exact ⟨by rw [List.map_append, List.map_cons]; exact this, h.len.trans (by simp), Below.setCells (h.row.lt g rfl).1 _ _ _ h.low⟩
theorem Pag.fh {W0 W : World} {B g n c : Nat} {pre post : List Entry} {x : Entry} (h : Pag W0 W B g n c pre post x) (s : List UInt8) {o : Nat} (ho : o = pre.length * 15 + 14) : Pag W0 (W.setCells g o [.string (bs s)]) B g n c pre post { x with fh := s } := by
  subst ho
  have hr := h.row
  rw [List.map_append, List.map_cons] at hr
  have := RowS.putMid (pre := pre.map Entry.vals) (post := post.map Entry.vals) (a := [.int .i64 x.gen, .string (bs x.name), .int .i64 x.cookie] ++ x.attr.vals) (m := [.string (bs x.fh)]) (b := []) (r := [.string (bs s)]) (by rw [List.append_nil, List.append_assoc]; exact hr) rfl (by have := h.len; simp at this ⊢; omega)
  rw [List.length_map, List.append_nil, List.append_assoc] at this
  exact ⟨by rw [List.map_append, List.map_cons]; exact this, h.len.trans (by simp), Below.setCells (h.row.lt g rfl).1 _ _ _ h.low⟩
theorem Pag.there {W0 W : World} {B g n c : Nat} {pre post : List Entry} {x : Entry} (h : Pag W0 W B g n c pre post x) {o k : Nat} (ho : o + k ≤ (pre.length + 1) * 15) : W.there g o k :=
  h.row.thereAt (by have := h.len; simp at this ⊢; omega) o k (Nat.le_trans ho (Nat.mul_le_mul_right _ (by have := h.len; simp at this; omega)))
theorem Pag.gen {W0 W : World} {B g n c : Nat} {pre post : List Entry} {x : Entry} (h : Pag W0 W B g n c pre post x) : W.cell? ⟨g, pre.length * 15, none⟩ = some (.int .i64 x.gen) := by
  obtain ⟨b, off, hA, -, -, hc⟩ := rowCell8 (l := pre ++ x :: post) (k := pre.length) Entry.len (by omega) h.row.rows (by simp)
  injection hA with hA
  injection hA with h1 h2 h3
  subst h1 h2
  have := hc 0 (.int .i64 x.gen) (by simp; rfl)
  simpa using this
end Go.Proofs.YtfjflkmhhbhceaaGreatDoor
