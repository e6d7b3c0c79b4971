/-
  How calls, entries, changes and caches that came in are read (written by wip/tools/structs.py; the cache by hand). No condition.
-/
import Derived.Test.YthfhdighniiodaaDoorProg
import Derived.Test.YthfhdighniiodaaDoorR03
import Derived.Test.YthfhdighniiodaaDoorR26
import Derived.Test.YthfhdighniiodaaDoorR05
import Derived.Deep.Light
import Derived.Great.BuildSlice
import Derived.ScopeJumps
import Derived.WalkMore
namespace Go.Proofs.YthfhdighniiodaaDoor
open Go.ChangeShapes Go.WideShapes Go.ChangeAt Go.RowKit Go.Deep
section
variable {H : Type} {enc : TypeId × Value → H} {w : World} {base : Nat} {spare : Nat → Bool} {held : Bool} {fuel : Nat} {cs : List Value} {x : DataW H × List MemPlace}

theorem open_Change (h : DataW.trod enc Tryd.prog w base spare held fuel 44 cs = some x) : ∃ a : Change, cs = a.vals ∧ a.good := by
  have hl : cs.length = 18 := (len_of Tryd.underlying44 h).trans (by kernel_rfl)
  obtain ⟨z0, h0, g0⟩ := int_field Tryd.underlying44 h 0 0 _ rfl (e := 3) rfl rfl (by kernel_rfl) Tryd.underlying3
  obtain ⟨z1, h1, g1⟩ := int_field Tryd.underlying44 h 1 1 _ rfl (e := 3) rfl rfl (by kernel_rfl) Tryd.underlying3
  obtain ⟨z2, h2, g2⟩ := int_field Tryd.underlying44 h 2 2 _ rfl (e := 3) rfl rfl (by kernel_rfl) Tryd.underlying3
  obtain ⟨z3, h3, g3⟩ := string_field Tryd.underlying44 h 3 3 _ rfl (e := 9) rfl rfl (by kernel_rfl) Tryd.underlying9
  obtain ⟨z4, h4, g4⟩ := string_field Tryd.underlying44 h 4 4 _ rfl (e := 9) rfl rfl (by kernel_rfl) Tryd.underlying9
  obtain ⟨z5, h5, g5⟩ := string_field Tryd.underlying44 h 5 5 _ rfl (e := 9) rfl rfl (by kernel_rfl) Tryd.underlying9
  obtain ⟨ps6, m6, y6, h6, hs6⟩ := sub_field Tryd.underlying44 h 6 6 10 _ rfl (e := 42) rfl rfl (by kernel_rfl)
  obtain ⟨z6, rfl, g6⟩ := open_Attr hs6
  obtain ⟨z7, h7, g7⟩ := int_field Tryd.underlying44 h 7 16 _ rfl (e := 3) rfl rfl (by kernel_rfl) Tryd.underlying3
  obtain ⟨z8, h8, g8⟩ := int_field Tryd.underlying44 h 8 17 _ rfl (e := 3) rfl rfl (by kernel_rfl) Tryd.underlying3
  have hend : cs.drop 18 = [] := List.drop_of_length_le (by omega)
  have e : cs = cs.drop 0 := rfl
  simp only [Nat.reduceAdd] at h0 h1 h2 h3 h4 h5 h6 h7 h8
  refine ⟨⟨z0, z1, z2, z3.data.toList, z4.data.toList, z5.data.toList, z6, z7, z8⟩, e.trans ?_, ⟨g0, g1, g2, by simpa using g3, by simpa using g4, by simpa using g5, g6, g7, g8⟩⟩
  rw [h0, h1, h2, h3, h4, h5, h6, h7, h8, hend]
  simp only [Change.vals, bs_list]
  rfl

theorem open_Call (h : DataW.trod enc Tryd.prog w base spare held fuel 57 cs = some x) : ∃ a : Call, cs = a.vals ∧ a.good := by
  have hl : cs.length = 24 := (len_of Tryd.underlying57 h).trans (by kernel_rfl)
  obtain ⟨z0, h0, g0⟩ := int_field Tryd.underlying57 h 0 0 _ rfl (e := 3) rfl rfl (by kernel_rfl) Tryd.underlying3
  obtain ⟨z1, h1, g1⟩ := string_field Tryd.underlying57 h 1 1 _ rfl (e := 9) rfl rfl (by kernel_rfl) Tryd.underlying9
  obtain ⟨z2, h2, g2⟩ := string_field Tryd.underlying57 h 2 2 _ rfl (e := 9) rfl rfl (by kernel_rfl) Tryd.underlying9
  obtain ⟨z3, h3, g3⟩ := string_field Tryd.underlying57 h 3 3 _ rfl (e := 9) rfl rfl (by kernel_rfl) Tryd.underlying9
  obtain ⟨z4, h4, g4⟩ := string_field Tryd.underlying57 h 4 4 _ rfl (e := 9) rfl rfl (by kernel_rfl) Tryd.underlying9
  obtain ⟨z5, h5, g5⟩ := int_field Tryd.underlying57 h 5 5 _ rfl (e := 3) rfl rfl (by kernel_rfl) Tryd.underlying3
  obtain ⟨z6, h6, g6⟩ := int_field Tryd.underlying57 h 6 6 _ rfl (e := 3) rfl rfl (by kernel_rfl) Tryd.underlying3
  obtain ⟨z7, h7, g7⟩ := int_field Tryd.underlying57 h 7 7 _ rfl (e := 3) rfl rfl (by kernel_rfl) Tryd.underlying3
  obtain ⟨z8, h8, g8⟩ := string_field Tryd.underlying57 h 8 8 _ rfl (e := 9) rfl rfl (by kernel_rfl) Tryd.underlying9
  obtain ⟨ps9, m9, y9, h9, hs9⟩ := sub_field Tryd.underlying57 h 9 9 10 _ rfl (e := 55) rfl rfl (by kernel_rfl)
  obtain ⟨z9, rfl, g9⟩ := open_Sett hs9
  obtain ⟨ps10, m10, y10, h10, hs10⟩ := sub_field Tryd.underlying57 h 10 19 2 _ rfl (e := 53) rfl rfl (by kernel_rfl)
  obtain ⟨z10, rfl, g10⟩ := open_Opt hs10
  obtain ⟨z11, h11, g11⟩ := int_field Tryd.underlying57 h 11 21 _ rfl (e := 3) rfl rfl (by kernel_rfl) Tryd.underlying3
  obtain ⟨z12, h12, g12⟩ := int_field Tryd.underlying57 h 12 22 _ rfl (e := 3) rfl rfl (by kernel_rfl) Tryd.underlying3
  obtain ⟨z13, h13, g13⟩ := string_field Tryd.underlying57 h 13 23 _ rfl (e := 9) rfl rfl (by kernel_rfl) Tryd.underlying9
  have hend : cs.drop 24 = [] := List.drop_of_length_le (by omega)
  have e : cs = cs.drop 0 := rfl
  simp only [Nat.reduceAdd] at h0 h1 h2 h3 h4 h5 h6 h7 h8 h9 h10 h11 h12 h13
  refine ⟨⟨z0, z1.data.toList, z2.data.toList, z3.data.toList, z4.data.toList, z5, z6, z7, z8.data.toList, z9, z10, z11, z12, z13.data.toList⟩, e.trans ?_, ⟨g0, by simpa using g1, by simpa using g2, by simpa using g3, by simpa using g4, g5, g6, g7, by simpa using g8, g9, g10, g11, g12, by simpa using g13⟩⟩
  rw [h0, h1, h2, h3, h4, h5, h6, h7, h8, h9, h10, h11, h12, h13, hend]
  simp only [Call.vals, bs_list]
  rfl

instance : Inhabited Held := ⟨⟨0, 0, []⟩⟩
instance : Inhabited Cached := ⟨⟨[], ⟨0, 0, 0, 0, 0, 0, 0, 0, 0, 0⟩⟩⟩
instance : Inhabited Known := ⟨⟨[], [], []⟩⟩
instance : Inhabited Placed := ⟨⟨[], 0, 0⟩⟩
instance : Inhabited Change := ⟨⟨0, 0, 0, [], [], [], ⟨0, 0, 0, 0, 0, 0, 0, 0, 0, 0⟩, 0, 0⟩⟩
instance : Inhabited Entry := ⟨⟨0, [], 0, ⟨false, ⟨0, 0, 0, 0, 0, 0, 0, 0, 0, 0⟩⟩, []⟩⟩

/-- a cache: the slices' headers, and what is in them -/
structure Cch where
  ha : Option Addr
  hc : Nat
  hs : List Held
  fa : Option Addr
  fc : Nat
  fs : List Cached
  na : Option Addr
  nc : Nat
  ns : List Known
  ba : Option Addr
  bc : Nat
  bl : List Placed
def Cch.vals (x : Cch) : List Value := [.slice x.ha x.hs.length x.hc, .slice x.fa x.fs.length x.fc, .slice x.na x.ns.length x.nc, .slice x.ba x.bl.length x.bc]
def Cch.sized (x : Cch) : Prop := x.hs.length ≤ maxLen ∧ x.fs.length ≤ maxLen ∧ x.ns.length ≤ maxLen ∧ x.bl.length ≤ maxLen
/-- what lies in memory of a cache -/
structure Cch.There (x : Cch) (w : World) : Prop where
  h : At w 3 x.ha (x.hs.map Held.vals)
  f : At w 11 x.fa (x.fs.map Cached.vals)
  n : At w 3 x.na (x.ns.map Known.vals)
  b : At w 3 x.ba (x.bl.map Placed.vals)
theorem Cch.There.below {c : Cch} {w w' : World} (h : c.There w) (hb : Below w.heap.size w w') : c.There w' := ⟨h.h.below hb, h.f.below hb, h.n.below hb, h.b.below hb⟩
/-- changes that came in -/
theorem open_changes (hlt : ∀ p ∈ x.2, p.block < w.heap.size) {A : Option Addr} {n c : Nat} (h : DataW.trod enc Tryd.prog w base spare held fuel 37 [.slice A n c] = some x) :
    ∃ l : List Change, n = l.length ∧ n ≤ maxLen ∧ At w 18 A (l.map Change.vals) ∧ ∀ t ∈ l, t.good := by
  obtain ⟨l, hn, hA, hg⟩ := rows_of (α := Change) (sz := 18) Tryd.underlying37 (by kernel_rfl) (by omega) Change.vals Change.good hlt (fun _ _ _ _ ht => open_Change ht) h
  exact ⟨l, hn, slice_len Tryd.underlying37 h, hA, hg⟩
end
end Go.Proofs.YthfhdighniiodaaDoor

/-
  Layer 17, walks: the program's changes that make a cache (written by wip/tools/genchanges.py). Conditions: at most 100 of each kind.
-/
namespace Go.Proofs.YthfhdighniiodaaDoor
open Go.RowKit
attribute [local go_sem ↓] Go.wp_at_zero Go.wp_at_succ
attribute [local go_sem] rowAt_ptr rowOf_drew rowOf_drewN rowOf_alloc_past rowOf_new
attribute [local go_sem] Held.at0 Held.lat0 Held.at1 Held.lat1 Held.at2 Held.lat2 Held.sub0_3 Held.lsub0_3 Held.len Cached.at0 Cached.lat0 Cached.at1 Cached.lat1 Cached.at2 Cached.lat2 Cached.at3 Cached.lat3 Cached.at4 Cached.lat4 Cached.at5 Cached.lat5 Cached.at6 Cached.lat6 Cached.at7 Cached.lat7 Cached.at8 Cached.lat8 Cached.at9 Cached.lat9 Cached.at10 Cached.lat10 Cached.sub0_11 Cached.lsub0_11 Cached.sub1_10 Cached.lsub1_10 Cached.len Known.at0 Known.lat0 Known.at1 Known.lat1 Known.at2 Known.lat2 Known.sub0_3 Known.lsub0_3 Known.len Placed.at0 Placed.lat0 Placed.at1 Placed.lat1 Placed.at2 Placed.lat2 Placed.sub0_3 Placed.lsub0_3 Placed.len

theorem Cch.lat0 (x : Cch) : x.vals[0]? = some (.slice x.ha x.hs.length x.hc) := rfl
theorem Cch.lat1 (x : Cch) : x.vals[1]? = some (.slice x.fa x.fs.length x.fc) := rfl
theorem Cch.lat2 (x : Cch) : x.vals[2]? = some (.slice x.na x.ns.length x.nc) := rfl
theorem Cch.lat3 (x : Cch) : x.vals[3]? = some (.slice x.ba x.bl.length x.bc) := rfl
attribute [local go_sem] Cch.lat0 Cch.lat1 Cch.lat2 Cch.lat3

theorem infoChange17 : (Tryd.prog.info? 44).map (fun i => (i.zero, i.size, i.bytes)) = some (some (.agg change0.vals.toArray), 18, 168) := by kernel_rfl
end Go.Proofs.YthfhdighniiodaaDoor


/-
  A slice literal of one struct whose cells are a term. No condition but the struct's size.
-/
namespace Go.Proofs.YthfhdighniiodaaDoor
open Go.RowKit

theorem fill_one (s : Nat) (hs : 0 < s) (base c : Array Value) (hb : base.size = s) (hc : c.size = s) : Instr.fill (fun i => some (i * s, s)) base [(0, .agg c)] = some c := by
  have hv : ∀ v ∈ [Value.agg c], v.cells.size = s := fun v h => by
    obtain rfl := List.mem_singleton.1 h
    exact hc
  obtain ⟨r, hr, hsz, hk⟩ := Great.fill_dense hs [Value.agg c] 0 base hv (by simp only [List.length_cons, List.length_nil]; omega)
  have hr2 : Instr.fill (fun i => some (i * s, s)) base [(0, .agg c)] = some r := hr
  rw [hr2]
  congr 1
  apply Array.ext
  · omega
  · intro k h1 h2
    have h3 := hk k
    have hk2 : k < s := by omega
    rw [if_pos (by simp only [List.length_cons, List.length_nil]; omega), Nat.div_eq_of_lt hk2, Nat.mod_eq_of_lt hk2] at h3
    have h4 : r[k]? = c[k]? := h3
    rw [Array.getElem?_eq_getElem h1, Array.getElem?_eq_getElem h2] at h4
    exact Option.some.inj h4
theorem wpList_buildSlice_one {P : Program} {ops : Array Oper} {rest : List Oper} {o : Oper} {a : Act} {w : World} {Q : Exit → Act → World → Prop} (hg : o.guard = none) (t e : TypeId) (x : Operand) (ho : o.op = .buildSlice t 1 #[(0, x)])
    (cs : List Value) (hx : a.eval x = .agg cs.toArray) (hu : P.underlying t = some (.slice e)) (ie : TypeInfo) (z : Value) (hie : P.info? e = some ie) (hz : ie.zero = some z) (_hzs : z.cells.size = cs.length) (hsize : ie.size = cs.length) (h0 : 0 < cs.length) (hsm : cs.length ≤ 1000)
    (h : wpList P ops Q rest (a.put o.dst (.slice (some ⟨w.heap.size, 0, none⟩) 1 1)) (w.alloc (.cells cs.toArray e))) : wpList P ops Q (o :: rest) a w := by
  refine wpList_buildSlice hg t e 1 #[(0, x)] ho cs.toArray ie z hu hie hz (by rw [hsize]; omega) (by rw [hsize]; omega) ?_ h
  rw [hsize]
  have hm : ((#[(0, x)] : Array (Nat × Operand)).map fun (i, x) => (i, a.eval x)).toList = [(0, .agg cs.toArray)] := by simp [hx]
  rw [hm]
  exact fill_one cs.length h0 _ _ (by simp) (by simp)
end Go.Proofs.YthfhdighniiodaaDoor


/-
  A scope in which the run jumps to several labels: what holds at every jump to each, and a measure that every pass from a label lowers. No condition.
-/
namespace Go.Proofs.YthfhdighniiodaaDoor
open Go

/-- As Q; by a goto to a label: what J says of that label. -/
def jumpsTo (J : Nat → Act → World → Prop) (Q : Exit → Act → World → Prop) : Exit → Act → World → Prop
  | .goto l, a, w => J l a w
  | e, a, w => Q e a w
theorem wp_scope_labels {P : Program} {a : Act} {w : World} {Q : Exit → Act → World → Prop} {c : Code} (J : Nat → Act → World → Prop) (μ : Nat → Act → World → Nat)
    (pass : ∀ l a w, J l a w → ∃ rest, findLabel c l = some rest ∧ rest.wp P (jumpsTo (fun l' a' w' => J l' a' w' ∧ μ l' a' w' < μ l a w) Q) a w)
    (first : (∀ l rest a w, findLabel c l = some rest → J l a w → rest.wp P (jumpsTo J Q) a w) → c.wp P (jumpsTo J Q) a w) : (Code.scope c).wp P Q a w := by
  have hfall : ∀ l rest a w, findLabel c l = some rest → J l a w → rest.wp P (jumpsTo J Q) a w := fun l rest a w hf hJ => by
    obtain ⟨rest', hf', hp⟩ := pass l a w hJ
    obtain rfl : rest' = rest := Option.some.inj (hf'.symm.trans hf)
    refine Code.wp_mono ?_ hp
    intro e a w h
    cases e with
    | goto l' => exact h.1
    | _ => exact h
  have first := first hfall
  intro b k cs
  have key : ∀ n l a w, μ l a w = n → J l a w → ∃ rest, gotoIn l (.inScope c :: k) = some (.code rest :: .inScope c :: k) ∧ ∃ e a' w', Q e a' w' ∧ Arrives P (lone (b.at a (.code rest :: .inScope c :: k)) cs w) b k cs e a' w' := by
    intro n
    induction n using Nat.strongRecOn with
    | _ n ih =>
      intro l a w hn hJ
      obtain ⟨rest, hf, hp⟩ := pass l a w hJ
      refine ⟨rest, by simp [gotoIn, hf], ?_⟩
      obtain ⟨e, a₁, w₁, hq, harr⟩ := hp b (.inScope c :: k) cs
      cases e with
      | normal => exact ⟨.normal, a₁, w₁, hq, Steps.trans harr (.one step_inScope)⟩
      | exit id => exact ⟨.exit id, a₁, w₁, hq, fun k' hk => harr k' (by simp [exitTo, hk])⟩
      | goto l' =>
        obtain ⟨hJ', hlt⟩ := hq
        obtain ⟨rest', hg, e₂, a₂, w₂, hq₂, harr₂⟩ := ih _ (by omega) l' a₁ w₁ rfl hJ'
        exact ⟨e₂, a₂, w₂, hq₂, .of_steps (harr _ hg) harr₂⟩
      | ret => exact ⟨_, a₁, w₁, hq, harr⟩
      | panic ch => exact ⟨_, a₁, w₁, hq, harr⟩
      | outgrown => exact ⟨_, a₁, w₁, hq, harr⟩
  obtain ⟨e, a₁, w₁, hq, harr⟩ := first b (.inScope c :: k) cs
  cases e with
  | normal => exact ⟨.normal, a₁, w₁, hq, .head step_scope (Steps.trans harr (.one step_inScope))⟩
  | exit id => exact ⟨.exit id, a₁, w₁, hq, fun k' hk => .head step_scope (harr k' (by simp [exitTo, hk]))⟩
  | goto l' =>
    obtain ⟨rest', hg, e₂, a₂, w₂, hq₂, harr₂⟩ := key _ l' a₁ w₁ rfl hq
    exact ⟨e₂, a₂, w₂, hq₂, .of_steps (.head step_scope (harr _ hg)) harr₂⟩
  | ret => exact ⟨_, a₁, w₁, hq, .of_steps (.one step_scope) harr⟩
  | panic ch => exact ⟨_, a₁, w₁, hq, .of_steps (.one step_scope) harr⟩
  | outgrown => exact ⟨_, a₁, w₁, hq, .of_steps (.one step_scope) harr⟩
/-- The same, where the run falls into one of the labels, too: what lies behind it is walked once. -/
theorem wp_scope_labels_into {P : Program} {a : Act} {w : World} {Q : Exit → Act → World → Prop} {c : Code} (J : Nat → Act → World → Prop) (μ : Nat → Act → World → Nat) (l0 : Nat) (B : Code) (hB : findLabel c l0 = some (.seq .skip B))
    (body : ∀ (Jx : Nat → Act → World → Prop) a w, J l0 a w → (∀ l' a' w', J l' a' w' → μ l' a' w' < μ l0 a w → Jx l' a' w') → B.wp P (jumpsTo Jx Q) a w)
    (pass : ∀ l a w, l ≠ l0 → J l a w → ∃ rest, findLabel c l = some rest ∧ rest.wp P (jumpsTo (fun l' a' w' => J l' a' w' ∧ μ l' a' w' < μ l a w) Q) a w)
    (first : (∀ a w, J l0 a w → B.wp P (jumpsTo J Q) a w) → c.wp P (jumpsTo J Q) a w) : (Code.scope c).wp P Q a w := by
  refine wp_scope_labels J μ ?_ (fun _ => first fun a w hJ => body J a w hJ fun _ _ _ h _ => h)
  intro l a w hJ
  by_cases hl : l = l0
  · subst hl
    exact ⟨_, hB, wp_seq (wp_skip (body _ a w hJ fun _ _ _ h h2 => ⟨h, h2⟩))⟩
  · exact pass l a w hl hJ
end Go.Proofs.YthfhdighniiodaaDoor
