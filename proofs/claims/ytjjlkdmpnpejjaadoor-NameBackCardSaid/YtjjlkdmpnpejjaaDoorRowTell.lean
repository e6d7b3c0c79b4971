/-
  A row of the call's own: one is put behind it, and where the new row lies. Conditions: sizes.
-/
import Derived.Test.YtjjlkdmpnpejjaaDoorRowS
namespace Go.Proofs.YtjjlkdmpnpejjaaDoor
open Go.RowKit
section
variable {P : Program} {w w' : World} {B : Nat} {e : TypeId} {sz : Nat} {v : Value} {rows : List (List Value)}
/-- 'append(l, x)': the one element lies in a new row; what else is changed, and where the new row lies -/
theorem RowS.append_tell (t ty : TypeId) (i : TypeInfo) {z : Value} {bytes : Nat} (ht : P.underlying t = some (.slice e)) (hi : P.info? e = some i) (hz : i.zero = some z) (hsize : i.size = sz) (hby : i.bytes = bytes)
    (hzs : z.cells.size = sz) (h0 : 0 < sz) (hb : bytes ≤ 4096) (h : RowS w B e sz v rows) (hB : B ≤ w.heap.size) (r : List Value) (hr : r.length = sz) (h1 : ∀ u ∈ r, u.oneCell' = true) (hl : rows.length ≤ 1000000000) :
    ∃ v' w', (Builtin.append_ #[t, t] ty #[v, .slice (some ⟨w.heap.size, 0, none⟩) 1 1]).run P (w.alloc (.cells r.toArray e)) = .ok v' w' ∧
      (RowS w' B e sz v' (rows ++ [r]) ∧ (∀ a, Below B a w → Below B a w') ∧ ∀ g, g < w.heap.size → v.ownBlock ≠ some g → w'.heap[g]? = w.heap[g]? ∧ v'.ownBlock ≠ some g) := by
  have hone : Blk (w.alloc (.cells r.toArray e)) w.heap.size e r := Blk.new w e r
  have hcell : ∀ j u, r[j]? = some u → (w.alloc (.cells r.toArray e)).cell? ((⟨w.heap.size, 0, none⟩ : Addr).add j) = some u := fun j u hu => by
    rw [Addr.add_mid, Nat.zero_add, hone.cell, hu]
  obtain ⟨v', w', hrun, hown, hgrow, _, hat⟩ := run_append_own_at (P := P) (w := w.alloc (.cells r.toArray e)) B t ty e i z sz bytes ht hi hz hsize hby hzs h0 v rows.length rows.flatten (h.2.alloc _) ⟨w.heap.size, 0, none⟩ 1 1 r
    (by simpa using hr) hcell h1 (by unfold maxLen; omega) (Nat.le_trans (Nat.mul_le_mul (show rows.length + 1 ≤ 1000000001 by omega) hb) (by omega)) (by simp; omega)
  refine ⟨v', w', hrun, ⟨fun q hq => ?_, ?_⟩, fun a ha => ?_, fun g hg hv => ⟨?_, ?_⟩⟩
  · rcases List.mem_append.1 hq with hq | hq
    · exact h.1 q hq
    · simp at hq; subst hq; exact hr
  · rw [List.length_append, List.flatten_append]
    simpa using hown
  · exact (ha.alloc hB _).grown hgrow (by simp; omega) fun k hk => (h.2.lt k hk).1
  · exact (hgrow.block g (by simp; omega) (fun e => hv e.symm)).trans (Below.heap_alloc w _ g hg)
  · rcases hat with hat | hat
    · rw [hat]; exact hv
    · rw [hat]
      intro he
      injection he with he
      simp at he
      omega
end
end Go.Proofs.YtjjlkdmpnpejjaaDoor
