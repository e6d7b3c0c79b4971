/-
  Layer 4, walks: what the program's Show keeps: a text that is ranged over, and the pieces so far. Condition: sizes.
-/
import Derived.Test.YtjjlkdmpnpejjaaDoorNameWalkC
import Derived.Test.YtjjlkdmpnpejjaaDoorNameWalkE
import Derived.Test.YtjjlkdmpnpejjaaDoorRowTell
import Derived.Test.YtjjlkdmpnpejjaaDoorByteRow
import Derived.Test.YtjjlkdmpnpejjaaDoorIter
namespace Go.Proofs.YtjjlkdmpnpejjaaDoor
open Go.RowKit
attribute [local go_sem ↓] Go.wp_at_zero Go.wp_at_succ
attribute [local go_sem] rowAt_ptr rowOf_drew rowOf_drewN rowOf_alloc_past rowOf_new

theorem run_next_rune {P : Program} {w : World} {b : Nat} {l : List UInt8} {pos : Nat} (h : Itr w b l pos) (hp : pos < l.length) (ty : TypeId) :
    (Instr.next (.pointer (some ⟨b, 0, none⟩)) true ty).run P w = .ok (.tuple #[.bool true, .int .i64 pos, .int .i32 (dec (l.drop pos)).1]) (w.setIter b l (pos + (dec (l.drop pos)).2)) := by
  have hd := decode_dec l pos
  have hs : pos < (bs l).size := hp
  unfold Itr at h
  simp only [Instr.next, getObj, setObj, Sem.run_bind, Sem.run, h, Result.andThen, hs, if_true, hd]
  simp [goInt, World.setIter]
/-- where an iterator is -/
def itrAt (w : World) (b : Nat) : Nat := match w.heap[b]? with
  | some (.stringIter _ p) => p
  | _ => 0
theorem Itr.at_ {w : World} {b : Nat} {l : List UInt8} {pos : Nat} (h : Itr w b l pos) : itrAt w b = pos := by
  unfold Itr at h
  simp [itrAt, h]
def str1 (p : List UInt8) : List Value := [.string (bs p)]
theorem infoStrB : (Tryd.prog.info? 9).map (fun i => (i.zero, i.size, i.bytes)) = some (some (.string .empty), 1, 16) := by kernel_rfl
theorem infoByteB : (Tryd.prog.info? 5).map (fun i => (i.zero, i.size, i.bytes)) = some (some (.int .u8 0), 1, 1) := by kernel_rfl

/-- b: the iterator's block, w: the world ahead of it; v: the slice of the pieces -/
structure ShSt (w : World) (l : List UInt8) (pos : Nat) (v : Value) (ps : List (List UInt8)) (W : World) : Prop where
  row : RowS W (w.heap.size + 1) 9 1 v (ps.map str1)
  itr : Itr W w.heap.size l pos
  bel : Below w.heap.size w W
section
variable {w W : World} {l : List UInt8} {pos : Nat} {v : Value} {ps : List (List UInt8)}
theorem ShSt.start (w : World) (l : List UInt8) : ShSt w l 0 (.slice none 0 0) [] (w.iter (bs l) 0) :=
  ⟨RowS.none_, Itr.new w l, (Below.refl _ _).alloc (Nat.le_refl _) _⟩
theorem ShSt.size (h : ShSt w l pos v ps W) : w.heap.size + 1 ≤ W.heap.size := h.itr.lt
theorem ShSt.next (h : ShSt w l pos v ps W) (p : Nat) : ShSt w l p v ps (W.setIter w.heap.size l p) := by
  refine ⟨?_, h.itr.set_ p, Below.setIter h.bel (Nat.le_refl _) l p⟩
  refine h.row.touch (F := fun k => k = w.heap.size) (Touch.setIter (F := fun k => k = w.heap.size) (b := w.heap.size) (Touch.refl _ _) (.inl rfl) l p) fun k hk he => ?_
  have := (h.row.lt k hk).1
  omega
theorem ShSt.stays {W' : World} (h : ShSt w l pos v ps W) (hb : Below W.heap.size W W') : ShSt w l pos v ps W' :=
  ⟨h.row.stays hb, h.itr.stays hb, h.bel.trans (hb.mono h.bel.size)⟩
theorem ShSt.drewN (h : ShSt w l pos v ps W) (n : Nat) : ShSt w l pos v ps (W.drewN n) := h.stays (bdN (Below.refl _ _) n)
theorem ShSt.app (h : ShSt w l pos v ps W) (p : List UInt8) (hl : ps.length ≤ 1000000000) :
    ∃ v' w', (Builtin.append_ #[22, 22] 22 #[v, .slice (some ⟨W.heap.size, 0, none⟩) 1 1]).run Tryd.prog (W.alloc (.cells #[.string (bs p)] 9)) = .ok v' w' ∧
      (ShSt w l pos v' (ps ++ [p]) w' ∧ ∀ g, g < W.heap.size → v.ownBlock ≠ some g → w'.heap[g]? = W.heap[g]? ∧ v'.ownBlock ≠ some g) := by
  obtain ⟨i0, hi, hz, hsize, hby⟩ := info_parts infoStrB
  obtain ⟨v', w', hr, hR, hB, hg⟩ := RowS.append_tell (P := Tryd.prog) 22 22 i0 Tryd.underlying22 hi hz hsize hby rfl (by omega) (by omega) h.row h.size (str1 p) rfl (by
    intro u hu
    simp only [str1, List.mem_cons, List.not_mem_nil, or_false] at hu
    subst hu; rfl) (by rw [List.length_map]; exact hl)
  refine ⟨v', w', hr, ⟨by rw [List.map_append]; exact hR, ?_, ?_⟩, hg⟩
  · refine (hg w.heap.size h.itr.lt ?_).1.trans h.itr
    intro he
    have := (h.row.lt _ he).1
    omega
  · have hb : Below (w.heap.size + 1) W w' := hB W (Below.refl _ _)
    exact h.bel.trans (hb.mono (by omega))
end
end Go.Proofs.YtjjlkdmpnpejjaaDoor
