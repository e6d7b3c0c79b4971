/-
  A row of structs of the call's own: a slice's elements are put behind it. Conditions: sizes.
-/
import Derived.Test.YtmkhpgpnahligaaRowClone
namespace Go.Proofs.Ytmkhpgpnahligaa
open Go.RowKit
section
variable {P : Program} {w w' : World} {B : Nat} {e : TypeId} {sz : Nat} {v : Value} {rows : List (List Value)}
theorem ownsRow_none_behind {base : Nat} {t ty e : TypeId} {i : TypeInfo} {size n c : Nat} {v : Value} {xs : List Value} (ht : P.underlying t = some (.slice e)) (hi : P.info? e = some i) (hown : w.ownsRow base e size v n xs) :
    (Builtin.append_ #[t, t] ty #[v, .slice none 0 c]).run P w = .ok v w := by
  rcases hown.2 with ⟨rfl, _⟩ | ⟨g, cap, cur, rfl, _, _, hnc, _⟩
  · simp [Builtin.append_, run_underlying ht, sizeOf, typeInfo, hi, Builtin.lenOf, Builtin.firstCells]
  · simp [Builtin.append_, run_underlying ht, sizeOf, typeInfo, hi, Builtin.lenOf, Builtin.firstCells, hnc, storeCells]
/-- 'append(l, m...)' -/
theorem RowS.appendAll (t ty : TypeId) (i : TypeInfo) {z : Value} {bytes : Nat} (ht : P.underlying t = some (.slice e)) (hi : P.info? e = some i) (hz : i.zero = some z) (hsize : i.size = sz) (hby : i.bytes = bytes)
    (hzs : z.cells.size = sz) (h0 : 0 < sz) (hb : bytes ≤ 4096) (h : RowS w B e sz v rows) (hB : B ≤ w.heap.size) {A : Option Addr} {c : Nat} {rs : List (List Value)} (hA : At w sz A rs) (hrs : ∀ r ∈ rs, r.length = sz) (h1 : ∀ r ∈ rs, ∀ u ∈ r, u.oneCell' = true)
    (hl : rows.length + rs.length ≤ 1000000000) :
    ∃ v' w', (Builtin.append_ #[t, t] ty #[v, .slice A rs.length c]).run P w = .ok v' w' ∧ (RowS w' B e sz v' (rows ++ rs) ∧ (∀ a, Below B a w → Below B a w') ∧ w.grownBy w' v.ownBlock) := by
  have hlen : ∀ q ∈ rows ++ rs, q.length = sz := fun q hq => by
    rcases List.mem_append.1 hq with hq | hq
    · exact h.1 q hq
    · exact hrs q hq
  cases A with
  | none =>
    have : rs = [] := by
      cases rs with
      | nil => rfl
      | cons r rs => obtain ⟨b, off, hh, _⟩ := hA 0 r (by simp); cases hh
    subst this
    exact ⟨v, w, ownsRow_none_behind ht hi h.2, by simpa using h, fun _ ha => ha, ⟨rfl, rfl, rfl, Nat.le_refl _, fun _ _ _ => rfl⟩⟩
  | some A =>
    obtain ⟨v', w', hrun, hown, hgrow, _, hat⟩ := run_append_own_at (P := P) (w := w) B t ty e i z sz bytes ht hi hz hsize hby hzs h0 v rows.length rows.flatten h.2 A rs.length c rs.flatten
      (flat_len rs hrs) (hA.flat hrs h0) (fun u hu => by
        obtain ⟨r, hr, hu⟩ := List.mem_flatten.1 hu
        exact h1 r hr u hu) (by unfold maxLen; omega) (Nat.le_trans (Nat.mul_le_mul hl hb) (by omega)) hB
    refine ⟨v', w', hrun, ⟨hlen, ?_⟩, fun a ha => ?_, hgrow⟩
    · rw [List.length_append, List.flatten_append]
      exact hown
    · exact ha.grown hgrow hB fun k hk => (h.2.lt k hk).1
end
end Go.Proofs.Ytmkhpgpnahligaa
