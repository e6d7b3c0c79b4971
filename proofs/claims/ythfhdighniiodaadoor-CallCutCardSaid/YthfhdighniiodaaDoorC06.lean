/-
  Bytes in slices and texts: a slice of bytes turned into a text; a row that is appended to, by bytes, by a text, by noughts. No condition but sizes.
-/
import Derived.Test.YthfhdighniiodaaDoorC01
import Derived.Test.YthfhdighniiodaaDoorC02
import Derived.Laws.BytesArg
import Derived.Test.YthfhdighniiodaaDoorProg
import Derived.OpenShut
namespace Go.Proofs.YthfhdighniiodaaDoor
open Go.RowKit

theorem strOf (l : List UInt8) : strOfNums (l.map fun b => (b.toNat : Int)) = bs l := by
  unfold strOfNums bs
  congr 1
  rw [List.map_map]
  congr 1
  conv => rhs; rw [← List.map_id l]
  refine List.map_congr_left fun b _ => ?_
  simp
theorem str_cells (l : List UInt8) : Lib.strCells (bs l) = l.map u8 := rfl

section
variable {P : Program} {w : World}
theorem run_row_string {base : Nat} {e src dst : TypeId} {sv : Value} {l : List UInt8} (hs : P.underlying src = some (.slice e)) (he : P.underlying e = some (.int .u8)) (hd : P.underlying dst = some .string)
    (hown : w.ownsRow base e 1 sv l.length (l.map u8)) : (convert src dst sv).run P w = .ok (.string (bs l)) w := by
  rcases hown.2 with ⟨rfl, hn⟩ | ⟨g, cap, cur, rfl, _⟩
  · have : l = [] := by simpa using hn
    subst this
    exact run_convert_bytes_nil w src e hs he 0 0 dst hd
  · rw [run_convert_bytes_arg (P := P) w src e hs he g 0 l.length cap (l.map fun b => (b.toNat : Int)) (by simp) (fun i hi => by
      have h1 := hown.cellAt i (by simpa using hi)
      rw [Nat.zero_add, h1]
      simp [u8, hi]) dst hd, strOf]
theorem run_one_string {src dst e : TypeId} (hs : P.underlying src = some (.slice e)) (he : P.underlying e = some (.int .u8)) (hd : P.underlying dst = some .string) (x : Int) (W : World) :
    (convert src dst (.slice (some ⟨W.heap.size, 0, none⟩) 1 1)).run P (W.alloc (.cells #[.int .u8 x] e)) = .ok (.string (bs [UInt8.ofNat x.toNat])) (W.alloc (.cells #[.int .u8 x] e)) := by
  rw [run_convert_bytes_arg (P := P) (W.alloc (.cells #[.int .u8 x] e)) src e hs he W.heap.size 0 1 1 [x] rfl (fun i hi => by
    obtain rfl : i = 0 := by omega
    rw [World.cell?_alloc_at _ _ _ _ rfl]; rfl) dst hd]
  rfl

/-- where the appended row lies: its old block, or a new one -/
theorem run_append_str_at (base : Nat) (t u ty e : TypeId) (i : TypeInfo) (ht : P.underlying t = some (.slice e)) (hu : P.underlying u = some .string) (hi : P.info? e = some i) (hz : i.zero = some (.int .u8 0))
    (hsize : i.size = 1) (hby : i.bytes = 1) (v : Value) (n : Nat) (xs : List Value) (hown : w.ownsRow base e 1 v n xs) (s : ByteArray)
    (h63 : n + s.size ≤ maxLen) (hbytes : n + s.size ≤ 140737488355328) (hbase : base ≤ w.heap.size) :
    ∃ v' w', (Builtin.append_ #[t, u] ty #[v, .string s]).run P w = .ok v' w' ∧ w'.ownsRow base e 1 v' (n + s.size) (xs ++ Lib.strCells s) ∧ w.grownBy w' v.ownBlock ∧ (v'.ownBlock = v.ownBlock ∨ v'.ownBlock = some w.heap.size) ∧ ∃ A c, v' = .slice A (n + s.size) c := by
  obtain ⟨v', w', hr, ho, hg, _⟩ := Lib.run_append_own_string (P := P) w base t u ty e i ht hu hi hz hsize hby v n xs hown s h63 hbytes hbase
  refine ⟨v', w', hr, ho, hg, ?_⟩
  have hsmall : n + s.size ≤ 9223372036854775807 := by simp only [maxLen] at h63; omega
  have hxl : xs.length = n := by simpa using hown.1
  rcases hown.2 with ⟨rfl, rfl⟩ | ⟨g, cap, cur, rfl, hbg, hgc, hnc, hcm, hcs, htake⟩
  · have hx : xs = [] := List.eq_nil_of_length_eq_zero hxl
    subst hx
    by_cases hm : s.size = 0
    · have hf := Lib.run_firstCells_string (P := P) w 1 s
      rw [hm] at hf
      have hr2 : (Builtin.append_ #[t, u] ty #[.slice none 0 0, .string s]).run P w = .ok (.slice none 0 0) w := by
        simp [Builtin.append_, run_underlying ht, run_underlying hu, sizeOf, typeInfo, hi, hsize, Builtin.lenOf, hm, hf]
      rw [hr2] at hr
      injection hr with h1 _
      subst h1
      exact ⟨.inl rfl, none, 0, by rw [hm]⟩
    · have hr2 := run_append_nil_string (P := P) w t u ty e i (.int .u8 0) ht hu hi hz s (by omega) (by omega) (by rw [hby]; omega)
      rw [hr2] at hr
      injection hr with h1 _
      subst h1
      exact ⟨.inr rfl, _, _, by rw [Nat.zero_add]⟩
  · by_cases hroom : n + s.size ≤ cap
    · have hcs' : cur.size = cap := by simpa using hcs
      have hr2 := Lib.run_append_room_string (P := P) w t u ty e i ht hu hi hsize g n cap cur hgc s hroom (by omega)
      rw [hr2] at hr
      injection hr with h1 _
      subst h1
      exact ⟨.inl rfl, _, _, rfl⟩
    · have holds : ∀ j u, xs[j]? = some u → w.cell? ((⟨g, 0, none⟩ : Addr).add j) = some u := hown.cells (g := g) rfl
      have hr2 := Lib.run_append_grow_string (P := P) w t u ty e i (.int .u8 0) ht hu hi hz ⟨g, 0, none⟩ n cap xs (by rw [hsize]; simpa using hxl) holds s (by omega) (by omega) (by rw [hby]; exact growslice_fits (by omega) (by omega))
      rw [hr2] at hr
      injection hr with h1 _
      subst h1
      exact ⟨.inr rfl, _, _, rfl⟩

theorem run_append_bytes_at (base : Nat) (t u ty e : TypeId) (i : TypeInfo) (ht : P.underlying t = some (.slice e)) (hu : P.underlying u = some .string) (hi : P.info? e = some i) (hz : i.zero = some (.int .u8 0))
    (hsize : i.size = 1) (hby : i.bytes = 1) (v : Value) (n : Nat) (xs : List Value) (hown : w.ownsRow base e 1 v n xs) (s : List UInt8)
    (hbytes : n + s.length ≤ 140737488355328) (hbase : base ≤ w.heap.size) :
    ∃ v' w', (Builtin.append_ #[t, u] ty #[v, .string (bs s)]).run P w = .ok v' w' ∧ w'.ownsRow base e 1 v' (n + s.length) (xs ++ s.map u8) ∧ w.grownBy w' v.ownBlock ∧ (v'.ownBlock = v.ownBlock ∨ v'.ownBlock = some w.heap.size) ∧ ∃ A c, v' = .slice A (n + s.length) c :=
  run_append_str_at base t u ty e i ht hu hi hz hsize hby v n xs hown (bs s) (by rw [bs_size]; unfold maxLen; omega) (by rw [bs_size]; omega) hbase

/-- n noughts -/
def zcells (n : Nat) : List Value := List.replicate n (.int .u8 0)
theorem zcells_len (n : Nat) : (zcells n).length = n := by simp [zcells]
theorem zcells_u8 (n : Nat) : zcells n = (List.replicate n (0 : UInt8)).map u8 := by simp [zcells, u8]
theorem zcells_one (n : Nat) : ∀ u ∈ zcells n, u.oneCell' = true := by
  intro u hu; rw [List.eq_of_mem_replicate hu]; rfl
theorem zeroCells_z (n : Nat) : Builtin.zeroCells (Value.int IntKind.u8 0).cells n = (zcells n).toArray := by
  apply Array.ext
  · simp [Builtin.zeroCells, zcells, Value.cells]
  · intro j h1 h2
    simp [Builtin.zeroCells, zcells, Value.cells, Nat.mod_one]

/-- 'append(b, make([]byte, m)...)' onto a row of the call's own -/
theorem run_append_zeros_at (base : Nat) (t u ty e : TypeId) (i : TypeInfo) (ht : P.underlying t = some (.slice e)) (hu : P.underlying u = some (.int .i64)) (hi : P.info? e = some i) (hz : i.zero = some (.int .u8 0))
    (hsize : i.size = 1) (hby : i.bytes = 1) (v : Value) (n : Nat) (xs : List Value) (hown : w.ownsRow base e 1 v n xs) (m : Nat)
    (hbytes : n + m ≤ 140737488355328) (hbase : base ≤ w.heap.size) :
    ∃ v' w', (Builtin.append_ #[t, u] ty #[v, .int .i64 m]).run P w = .ok v' w' ∧ w'.ownsRow base e 1 v' (n + m) (xs ++ zcells m) ∧ w.grownBy w' v.ownBlock ∧ (v'.ownBlock = v.ownBlock ∨ v'.ownBlock = some w.heap.size) ∧ ∃ A c, v' = .slice A (n + m) c := by
  have h63 : n + m ≤ maxLen := by simp only [maxLen]; omega
  have hw0 : IntKind.i64.wrap (m : Int) = m := IntWalk.i64_in _ (by omega)
  have hai : ∀ W : World, (asIntOf (.int .i64 (m : Int))).run P W = .ok (.i64, (m : Int)) W := fun _ => rfl
  have hneg : ¬ ((m : Int) < 0) := by omega
  have hbig : ¬ (281474976710656 < (m : Int)) := by omega
  have hxl : xs.length = n := by simpa using hown.1
  have hlen : (xs ++ zcells m).length = (n + m) * 1 := by rw [List.length_append, hxl, zcells_len, Nat.mul_one]
  have grown : ∀ (old : Nat), old < n + m → ∀ (row : Option Nat),
      (w.drew.alloc (.cells (xs.toArray ++ (zcells m).toArray ++ Builtin.zeroCells (Value.int .u8 0).cells (grownCap w (n + m) old e - (n + m))) e)).ownsRow base e 1
        (.slice (some ⟨w.heap.size, 0, none⟩) (n + m) (grownCap w (n + m) old e)) (n + m) (xs ++ zcells m) ∧
      w.grownBy (w.drew.alloc (.cells (xs.toArray ++ (zcells m).toArray ++ Builtin.zeroCells (Value.int .u8 0).cells (grownCap w (n + m) old e - (n + m))) e)) row := by
    intro old ho row
    have hge := grownCap_ge w (n + m) old e
    have hcm : grownCap w (n + m) old e ≤ maxLen := grownCap_le_maxLen w (n + m) old e h63
    refine ⟨⟨hlen, .inr ⟨w.heap.size, _, _, rfl, hbase, heap_alloc_new w.drew _, hge, hcm, ?_, ?_⟩⟩, ⟨rfl, rfl, rfl, by simp, fun k hk _ => Below.heap_alloc w.drew _ k hk⟩⟩
    · have hz1 : (Value.int IntKind.u8 0).cells.size = 1 := rfl
      simp only [Array.size_append, List.size_toArray, size_zeroCells, hz1, hxl, zcells_len]
      omega
    · simp only [Array.toList_append, List.append_assoc]
      rw [← List.append_assoc, ← hlen]
      exact List.take_left
  rcases hown.2 with ⟨rfl, rfl⟩ | ⟨g, cap, cur, rfl, hbg, hg, hnc, hcm, hcs, htake⟩
  · have hx : xs = [] := List.eq_nil_of_length_eq_zero hxl
    subst hx
    by_cases hm : m = 0
    · subst hm
      refine ⟨.slice none 0 0, w, ?_, World.ownsRow_nil w base e 1, ⟨rfl, rfl, rfl, Nat.le_refl _, fun _ _ _ => rfl⟩, .inl rfl, none, 0, rfl⟩
      have hai0 : ∀ W : World, (asIntOf (.int .i64 0)).run P W = .ok (.i64, 0) W := fun _ => rfl
      have hw00 : IntKind.i64.wrap 0 = 0 := rfl
      simp [Builtin.append_, run_underlying ht, run_underlying hu, sizeOf, typeInfo, hi, hby, asInt, hai0, hw00]
    · have hgr := grown 0 (by omega) (Value.ownBlock (.slice none 0 0))
      simp only [Nat.zero_add, List.nil_append, Array.empty_append] at hgr ⊢
      refine ⟨_, _, ?_, hgr.1, hgr.2, .inr rfl, _, _, rfl⟩
      have h48 : ¬ (281474976710656 < Builtin.nextslicecap m 0) := by rw [nextslicecap_zero (by omega)]; omega
      have h63' : ¬ (9223372036854775807 < (m : Int)) := by omega
      have hm0 : ¬ (m = 0) := hm
      have hm1 : 0 < m := by omega
      simp [Builtin.append_, run_underlying ht, run_underlying hu, sizeOf, typeInfo, zeroValue, hi, hz, hsize, hby, asInt, hai, hw0, hneg, hbig, h48, h63', hm0, Question.forced, Builtin.firstCells, newRow, grownCap, zeroCells_z]
  · have hcs' : cur.size = cap := by simpa using hcs
    by_cases hroom : n + m ≤ cap
    · have hst := run_storeCells_at P g n e (zcells m) 0 cur w hg (by rw [zcells_len]; omega) (zcells_one m)
      simp only [Nat.add_zero, zcells_len] at hst
      refine ⟨.slice (some ⟨g, 0, none⟩) (n + m) cap, w.setRow g (cur.toList.take n ++ zcells m ++ cur.toList.drop (n + m)).toArray, ?_, ⟨hlen, .inr ⟨g, cap, _, rfl, hbg, setRow_heap w g cur _ e _ hg, hroom, hcm, ?_, ?_⟩⟩, ⟨rfl, rfl, rfl, by simp, fun k _ hk => setRow_other w g k _ (fun e => hk (by simp [Value.ownBlock, e]))⟩, .inl rfl, _, _, rfl⟩
      · by_cases hm : m = 0
        · subst hm
          have hai0 : ∀ W : World, (asIntOf (.int .i64 0)).run P W = .ok (.i64, 0) W := fun _ => rfl
          have hw00 : IntKind.i64.wrap 0 = 0 := rfl
          have hroom' : n ≤ cap := by omega
          simp only [zcells, List.replicate, List.append_nil, List.take_append_drop, Array.toArray_toList, Nat.add_zero] at hst
          simp [Builtin.append_, run_underlying ht, run_underlying hu, sizeOf, typeInfo, hi, hsize, hby, asInt, hai0, hw00, hroom', zcells, Addr.add_lit, hst]
        · simp [Builtin.append_, run_underlying ht, run_underlying hu, sizeOf, typeInfo, zeroValue, hi, hz, hsize, hby, asInt, hai, hw0, hneg, hbig, hm, hroom, zeroCells_z, Addr.add_lit, hst]
      · simp only [List.size_toArray, List.length_append, List.length_take, List.length_drop, Array.length_toList, zcells_len]
        omega
      · have ht' : cur.toList.take n = xs := by simpa using htake
        rw [ht', ← hlen]
        exact List.take_left
    · have holds : ∀ j u, xs[j]? = some u → w.cell? ((⟨g, 0, none⟩ : Addr).add j) = some u := hown.cells (g := g) rfl
      have hgr := grown cap (by omega) (Value.ownBlock (.slice (some ⟨g, 0, none⟩) n cap))
      refine ⟨_, _, ?_, hgr.1, hgr.2, .inr rfl, _, _, rfl⟩
      have h48 : ¬ (281474976710656 < Builtin.nextslicecap (n + m) cap) := by
        have := growslice_fits (need := n + m) (old := cap) (bytes := 1) (by omega) (by omega)
        omega
      have h63' : ¬ (9223372036854775807 < (n : Int) + (m : Int)) := by omega
      have hfo := run_firstCells_some (P := P) w.drew 1 n ⟨g, 0, none⟩ n cap xs (by simpa using hxl) (by simpa using holds)
      have hm0 : ¬ (m = 0) := by
        intro h; subst h
        exact hroom (by omega)
      simp [Builtin.append_, run_underlying ht, run_underlying hu, sizeOf, typeInfo, zeroValue, hi, hz, hsize, hby, asInt, hai, hw0, hneg, hbig, h48, h63', hm0, hroom, Question.forced, hfo, newRow, grownCap, zeroCells_z]

/-- an append at a plain region's list, whatever law says how it runs -/
theorem wp_append_by {o : Oper} {a : Act} {K : Act → World → Prop} {Q : Exit → Act → World → Prop} {R : Value → World → Prop} (s x : Operand) (ats : Array TypeId) (ho : o.op = .call { callee := .builtin .append, args := #[s, x], argTypes := ats })
    (v y : Value) (hs : a.eval s = v) (hx : a.eval x = y) (hex : ∃ v' w', (Builtin.append_ ats o.type #[v, y]).run P w = .ok v' w' ∧ R v' w') (h : ∀ v' w', R v' w' → K (a.put o.dst v') w') : o.wp P a w K Q := by
  obtain ⟨v', w', hr, hR⟩ := hex
  unfold Oper.wp execOp
  simp only [ho, resolve, invoke, builtin, Sem.run_bind, Sem.run_pure, Result.andThen_ok, List.map_toArray, List.map_cons, List.map_nil, hs, hx, hr]
  exact h v' w' hR
theorem wpList_append_by {ops : Array Oper} {rest : List Oper} {o : Oper} {a : Act} {Q : Exit → Act → World → Prop} {R : Value → World → Prop} (hgd : o.guard = none) (s x : Operand) (ats : Array TypeId) (ho : o.op = .call { callee := .builtin .append, args := #[s, x], argTypes := ats })
    (v y : Value) (hs : a.eval s = v) (hx : a.eval x = y) (hex : ∃ v' w', (Builtin.append_ ats o.type #[v, y]).run P w = .ok v' w' ∧ R v' w') (h : ∀ v' w', R v' w' → wpList P ops Q rest (a.put o.dst v') w') : wpList P ops Q (o :: rest) a w :=
  wpList_plain hgd fun _ hK => wp_append_by s x ats ho v y hs hx hex fun v' w' hR => hK _ _ (h v' w' hR)
theorem step_append_by {ops : Array Oper} {o : Oper} {a : Act} {K : Act → World → Prop} {Q : Exit → Act → World → Prop} {R : Value → World → Prop} {E : Prop} (hgd : o.guard = none) (s x : Operand) (ats : Array TypeId) (ho : o.op = .call { callee := .builtin .append, args := #[s, x], argTypes := ats })
    (v y : Value) (hs : a.eval s = v) (hx : a.eval x = y) (hex : ∃ v' w', (Builtin.append_ ats o.type #[v, y]).run P w = .ok v' w' ∧ R v' w') (h : ∀ v' w', R v' w' → K (a.put o.dst v') w') :
    if Region.wanted o (yielded ops a.tmps) = true then Oper.wp P o a w K Q else E := by
  have hw : Region.wanted o (yielded ops a.tmps) = true := by simp [Region.wanted, hgd]
  rw [if_pos hw]
  exact wp_append_by s x ats ho v y hs hx hex h
end
end Go.Proofs.YthfhdighniiodaaDoor

/-
  Layer 1, what lies in memory: a writer and its row, a reader, the reference's reader. No condition.
-/
namespace Go.Proofs.YthfhdighniiodaaDoor
open Go.RowKit

/-- a writer at block g: its slice's value, and the bytes that it holds -/
def Wr (w : World) (g : Nat) (sv : Value) (l : List UInt8) : Prop := Blk w g 87 [sv] ∧ w.ownsRow 0 5 1 sv l.length (l.map u8)
/-- the blocks that a writer may change -/
def foot (g : Nat) (sv : Value) (k : Nat) : Prop := k = g ∨ sv.ownBlock = some k
/-- the writer has come to hold these bytes; all else that was there is as it was -/
def MovedTo (g : Nat) (sv sv' : Value) (l : List UInt8) (w w' : World) : Prop := Wr w' g sv' l ∧ (∀ k, sv'.ownBlock = some k → sv.ownBlock = some k ∨ w.heap.size ≤ k) ∧ Touch (foot g sv) w w'
def Moved (g : Nat) (sv : Value) (l : List UInt8) (w w' : World) : Prop := ∃ sv', MovedTo g sv sv' l w w'
theorem Moved.refl {g : Nat} {sv : Value} {l : List UInt8} {w : World} (h : Wr w g sv l) : Moved g sv l w w := ⟨sv, h, fun _ e => .inl e, Touch.refl _ _⟩
theorem Moved.size {g : Nat} {sv : Value} {l : List UInt8} {w w' : World} (h : Moved g sv l w w') : w.heap.size ≤ w'.heap.size := by obtain ⟨_, _, _, h⟩ := h; exact h.size
theorem Wr.row_ne {g : Nat} {sv : Value} {l : List UInt8} {w : World} (h : Wr w g sv l) : sv.ownBlock ≠ some g := Blk.own_ne h.2 h.1 (by decide)
theorem Wr.row_lt {g : Nat} {sv : Value} {l : List UInt8} {w : World} (h : Wr w g sv l) {k : Nat} (hk : sv.ownBlock = some k) : k < w.heap.size := (h.2.lt k hk).2
theorem foot_next {g : Nat} {sv sv1 : Value} {w : World} (hrow : ∀ k, sv1.ownBlock = some k → sv.ownBlock = some k ∨ w.heap.size ≤ k) : ∀ i, i < w.heap.size → foot g sv1 i → foot g sv i := fun i hi hf => by
  rcases hf with rfl | hf
  · exact .inl rfl
  · rcases hrow i hf with h | h
    · exact .inr h
    · omega
theorem MovedTo.next {g : Nat} {sv sv1 sv2 : Value} {l : List UInt8} {w w1 w2 : World} (hrow : ∀ k, sv1.ownBlock = some k → sv.ownBlock = some k ∨ w.heap.size ≤ k) (ht : Touch (foot g sv) w w1) (h : MovedTo g sv1 sv2 l w1 w2) : MovedTo g sv sv2 l w w2 := by
  obtain ⟨hw, hr, ht2⟩ := h
  refine ⟨hw, fun k hk => ?_, ht.trans ht2 (foot_next hrow)⟩
  rcases hr k hk with h | h
  · exact hrow k h
  · exact .inr (Nat.le_trans ht.size h)
theorem Moved.next {g : Nat} {sv sv1 : Value} {l : List UInt8} {w w1 w2 : World} (hrow : ∀ k, sv1.ownBlock = some k → sv.ownBlock = some k ∨ w.heap.size ≤ k) (ht : Touch (foot g sv) w w1) (h : Moved g sv1 l w1 w2) : Moved g sv l w w2 := by
  obtain ⟨sv2, hw, hr, ht2⟩ := h
  refine ⟨sv2, hw, fun k hk => ?_, ht.trans ht2 (foot_next hrow)⟩
  rcases hr k hk with h | h
  · exact hrow k h
  · exact .inr (Nat.le_trans ht.size h)
/-- a block of another kind stands while a writer is written -/
theorem Wr.keeps {g : Nat} {sv : Value} {l : List UInt8} {w w' : World} {k : Nat} {T : TypeId} {cs : List Value} (h : Wr w g sv l) (hb : Blk w k T cs) (h1 : T ≠ 87) (h2 : T ≠ 5) (ht : Touch (foot g sv) w w') : Blk w' k T cs :=
  hb.touch ht fun hf => by
    rcases hf with rfl | hf
    · exact Blk.ne_ h.1 hb (Ne.symm h1) rfl
    · exact Blk.own_ne h.2 hb (Ne.symm h2) hf
/-- a writer stands while what is none of its blocks is changed -/
theorem Wr.touch {g : Nat} {sv : Value} {l : List UInt8} {w w' : World} {F : Nat → Prop} (h : Wr w g sv l) (ht : Touch F w w') (hn : ∀ k, foot g sv k → ¬ F k) : Wr w' g sv l :=
  ⟨h.1.touch ht (hn g (.inl rfl)), ownsRow_touch h.2 ht fun k hk => hn k (.inr hk)⟩
theorem Wr.stays {g : Nat} {sv : Value} {l : List UInt8} {w w' : World} (h : Wr w g sv l) (hb : Below w.heap.size w w') : Wr w' g sv l := h.touch (Touch.of_below hb (fun _ => False)) fun _ _ hf => hf
theorem Wr.alloc {g : Nat} {sv : Value} {l : List UInt8} {w : World} (h : Wr w g sv l) (o : Obj) : Wr (w.alloc o) g sv l := h.stays ((Below.refl _ _).alloc (Nat.le_refl _) o)
theorem wr_row_ne {g : Nat} {sv sv2 : Value} {l : List UInt8} {n : Nat} {xs : List Value} {w W0 w1 : World} (hW : Wr w g sv l) (hb0 : Below w.heap.size w W0) (hgrow : W0.grownBy w1 sv.ownBlock) (hown : w1.ownsRow 0 5 1 sv2 n xs) : Blk w1 g 87 [sv] ∧ sv2.ownBlock ≠ some g := by
  have h1 : Blk w1 g 87 [sv] := (hW.1.stays hb0).grown hgrow hW.row_ne
  exact ⟨h1, Blk.own_ne hown h1 (by decide)⟩
/-- more bytes have been put behind those of a writer, and its field has been set -/
theorem moved_append {g : Nat} {sv sv1 sv2 : Value} {l m : List UInt8} {w wr W0 w1 : World} (hW : Wr wr g sv1 l) (hrow : ∀ k, sv1.ownBlock = some k → sv.ownBlock = some k ∨ w.heap.size ≤ k) (hT : Touch (foot g sv) w wr)
    (hb0 : Below wr.heap.size wr W0) (hgrow : W0.grownBy w1 sv1.ownBlock) (hown : w1.ownsRow 0 5 1 sv2 (l.length + m.length) (l.map u8 ++ m.map u8)) (hat : ∀ k, sv2.ownBlock = some k → sv1.ownBlock = some k ∨ W0.heap.size ≤ k) :
    MovedTo g sv sv2 (l ++ m) w (w1.setCell ⟨g, 0, none⟩ sv2) := by
  obtain ⟨hB, hne⟩ := wr_row_ne hW hb0 hgrow hown
  refine MovedTo.next hrow hT ⟨⟨?_, ?_⟩, ?_, ?_⟩
  · have := hB.set_ 0 sv2
    simpa using this
  · have := ownsRow_setCell_other hown (a := ⟨g, 0, none⟩) hne sv2
    simpa using this
  · intro k hk
    rcases hat k hk with h | h
    · exact .inl h
    · exact .inr (Nat.le_trans hb0.size h)
  · exact ((Touch.of_below hb0 (foot g sv1)).then_ ((Touch.of_grown hgrow fun k hk => .inr hk).mono fun _ _ h => h)).setCell (.inl (.inl rfl)) _
/-- a call on a writer: what it returns, and what the writer holds behind it -/
def Wrote (g : Nat) (sv : Value) (l : List UInt8) (v : Value) (w : World) (e : Ending) (w' : World) : Prop := e = .returned v ∧ Moved g sv l w w'

/-- a reader at block g -/
def Rd (w : World) (g : Nat) (r : Rs) : Prop := Blk w g 122 [.string (bs r.s), .int .i64 r.e] ∧ (r.e ≠ 0 → r.s = [])

theorem num_get (n : Nat) : ∀ (k j : Nat) (h : j < k), (num n k)[j]'(by rw [num_len]; exact h) = UInt8.ofNat (n / 256 ^ (k - 1 - j)) := by
  intro k
  induction k with
  | zero => intro j h; omega
  | succ k ih =>
    intro j h
    match j, h with
    | 0, _ => simp [num_cons]
    | j + 1, h =>
      have := ih j (by omega)
      simp only [num_cons, List.getElem_cons_succ, this]
      congr 3
      omega
theorem num_take (n k m : Nat) (hm : 0 < m) (hmk : m ≤ k) : (num n k).take (k - (m - 1)) = (num n k).take (k - m) ++ [UInt8.ofNat (n / 256 ^ (m - 1))] := by
  have h : k - m < (num n k).length := by rw [num_len]; omega
  have e : k - 1 - (k - m) = m - 1 := by omega
  rw [show k - (m - 1) = k - m + 1 by omega, List.take_succ_eq_append_getElem h, num_get n k (k - m) (by omega), e]
end Go.Proofs.YthfhdighniiodaaDoor


/-
  Layer 1: a thing that is written or read, its cells, its bytes, and what is wrong with it. No condition.
-/
namespace Go.Proofs.YthfhdighniiodaaDoor
open Go.RowKit

structure Thing where
  kind : Int
  n : Int
  is : Bool
  s : List UInt8
def Thing.vals (x : Thing) : List Value := [.int .i64 x.kind, .int .i64 x.n, .bool x.is, .string (bs x.s)]
theorem Thing.len (x : Thing) : x.vals.length = 4 := rfl
theorem Thing.one (x : Thing) : ∀ v ∈ x.vals, v.oneCell' = true := by
  intro v hv
  unfold Thing.vals at hv
  simp only [List.mem_cons, List.not_mem_nil, or_false] at hv
  rcases hv with rfl | rfl | rfl | rfl <;> rfl
def Thing.good (x : Thing) : Prop := (Lit.int .i64 x.kind).wf = true ∧ (Lit.int .i64 x.n).wf = true ∧ x.s.length ≤ maxLen
instance : Inhabited Thing := ⟨⟨0, 0, false, []⟩⟩

def Thing.err (t : Thing) : Int :=
  if t.kind = 1 then (if t.n < 0 ∨ 4294967295 < t.n then 3 else 0)
  else if t.kind = 2 then (if t.n < 0 then 3 else 0)
  else if t.kind = 6 then (if t.is = true ∧ t.n < 0 then 3 else 0)
  else 0
def Thing.bytes (t : Thing) : List UInt8 :=
  if t.kind = 1 then (if t.n < 0 ∨ 4294967295 < t.n then [] else num t.n.toNat 4)
  else if t.kind = 2 then (if t.n < 0 then [] else num t.n.toNat 8)
  else if t.kind = 3 then truth t.is
  else if t.kind = 4 then filled t.s
  else if t.kind = 5 then opq t.s
  else if t.kind = 6 then (if t.is = true ∧ t.n < 0 then [] else optB t.is t.n)
  else []
theorem Thing.bytes_len (t : Thing) : t.bytes.length ≤ t.s.length + 16 := by
  have hp := padn_lt t.s.length
  unfold Thing.bytes truth optB truth opq
  repeat' split
  all_goals simp [num_len, filled_len]
  all_goals omega

/-- a new writer -/
theorem Wr.fresh (w : World) : Wr (w.alloc (.cells #[.slice none 0 0] 87)) w.heap.size (.slice none 0 0) [] := ⟨Blk.new _ _ _, World.ownsRow_nil _ _ _ _⟩
theorem Moved.below {g : Nat} {sv : Value} {l : List UInt8} {B : Nat} {w w' : World} (h : Moved g sv l w w') (hg : B ≤ g) (hs : ∀ k, sv.ownBlock = some k → B ≤ k) (hB : B ≤ w.heap.size) : Below B w w' := by
  obtain ⟨_, _, _, ht⟩ := h
  refine ht.below (fun k _ hf => ?_) hB
  rcases hf with rfl | hf
  · exact hg
  · exact hs k hf
end Go.Proofs.YthfhdighniiodaaDoor
