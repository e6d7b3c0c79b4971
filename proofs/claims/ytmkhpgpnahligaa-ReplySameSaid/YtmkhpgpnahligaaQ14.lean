/-
  Layer 8, walks: the document's Large (what it says no to is short). Conditions: machine lists.
-/
import Derived.Test.YtmkhpgpnahligaaQ13
import Derived.Test.YtmkhpgpnahligaaQ12
import Derived.BigGuardPart
import Derived.Lib.SliceRun
namespace Go.Proofs.Ytmkhpgpnahligaa
open Go.RowKit
attribute [local go_sem ↓] Go.wp_at_zero Go.wp_at_succ
attribute [local go_sem] rowAt_ptr rowOf_drew rowOf_drewN rowOf_alloc_past rowOf_new
attribute [local go_sem ↓] ldReply

attribute [local go_sem] Reply.at0 Reply.lat0 Reply.at1 Reply.lat1 Reply.at2 Reply.lat2 Reply.at3 Reply.lat3 Reply.at4 Reply.lat4 Reply.at5 Reply.lat5 Reply.at6 Reply.lat6 Reply.at7 Reply.lat7 Reply.at8 Reply.lat8 Reply.at9 Reply.lat9 Reply.at10 Reply.lat10 Reply.at11 Reply.lat11 Reply.at12 Reply.lat12 Reply.at13 Reply.lat13 Reply.at14 Reply.lat14 Reply.at15 Reply.lat15 Reply.at16 Reply.lat16 Reply.at17 Reply.lat17 Reply.at18 Reply.lat18 Reply.at19 Reply.lat19 Reply.at20 Reply.lat20 Reply.at21 Reply.lat21 Reply.at22 Reply.lat22 Reply.at23 Reply.lat23 Reply.at24 Reply.lat24 Reply.at25 Reply.lat25 Reply.at26 Reply.lat26 Reply.at27 Reply.lat27 Reply.at28 Reply.lat28 Reply.at29 Reply.lat29 Reply.at30 Reply.lat30 Reply.at31 Reply.lat31 Reply.at32 Reply.lat32 Reply.at33 Reply.lat33 Reply.at34 Reply.lat34 Reply.at35 Reply.lat35 Reply.at36 Reply.lat36 Reply.at37 Reply.lat37 Reply.at38 Reply.lat38 Reply.at39 Reply.lat39 Reply.at40 Reply.lat40 Reply.at41 Reply.lat41 Reply.at42 Reply.lat42 Reply.at43 Reply.lat43 Reply.at44 Reply.lat44 Reply.at45 Reply.lat45 Reply.at46 Reply.lat46 Reply.at47 Reply.lat47 Reply.at48 Reply.lat48 Reply.at49 Reply.lat49 Reply.at50 Reply.lat50 Reply.at51 Reply.lat51 Reply.at52 Reply.lat52 Reply.at53 Reply.lat53 Reply.at54 Reply.lat54 Reply.at55 Reply.lat55 Reply.at56 Reply.lat56 Reply.at57 Reply.lat57 Reply.sub0_58 Reply.lsub0_58 Reply.sub2_11 Reply.lsub2_11 Reply.sub3_10 Reply.lsub3_10 Reply.sub13_11 Reply.lsub13_11 Reply.sub14_10 Reply.lsub14_10 Reply.sub24_13 Reply.lsub24_13 Reply.sub24_2 Reply.lsub24_2 Reply.sub26_11 Reply.lsub26_11 Reply.sub27_10 Reply.lsub27_10 Reply.sub37_13 Reply.lsub37_13 Reply.sub37_2 Reply.lsub37_2 Reply.sub39_11 Reply.lsub39_11 Reply.sub40_10 Reply.lsub40_10 Reply.len Entry.at0 Entry.lat0 Entry.at1 Entry.lat1 Entry.at2 Entry.lat2 Entry.at3 Entry.lat3 Entry.at4 Entry.lat4 Entry.at5 Entry.lat5 Entry.at6 Entry.lat6 Entry.at7 Entry.lat7 Entry.at8 Entry.lat8 Entry.at9 Entry.lat9 Entry.at10 Entry.lat10 Entry.at11 Entry.lat11 Entry.at12 Entry.lat12 Entry.at13 Entry.lat13 Entry.at14 Entry.lat14 Entry.sub0_15 Entry.lsub0_15 Entry.sub3_11 Entry.lsub3_11 Entry.sub4_10 Entry.lsub4_10 Entry.len

/-- what Large tells: where it says no, these are short -/
def SaysL (n m : Nat) (w : World) (e : Ending) (w' : World) : Prop := ∃ b, e = .returned (.bool b) ∧ (b = false → n ≤ 70 ∧ m ≤ 30) ∧ Below w.heap.size w w'
theorem SaysL.of {n m : Nat} {w w' : World} (b : Bool) (h : b = false → n ≤ 70 ∧ m ≤ 30) (hb : Below w.heap.size w w') : SaysL n m w (.returned (.bool b)) w' := ⟨b, rfl, h, hb⟩
set_option maxRecDepth 20000 in
set_option maxHeartbeats 1600000 in
theorem refLarge8_any (x : RepL) (w : World) (hx : x.There w) :
    Calls Try.prog 18 #[.agg x.r.vals.toArray] w (SaysL x.es.length x.us.length w) := by
  obtain ⟨x, l, p⟩ := x
  obtain ⟨ne, nu, le, lu, hAe, -⟩ := hx
  simp only at ne nu le lu hAe ⊢
  have hB : Below w.heap.size w (w.alloc (.cells x.vals.toArray 46)) := (Below.refl _ _).alloc (Nat.le_refl _) _
  have hX := Blk.new w 46 x.vals
  have hAe := hAe.below hB
  go_enter Try.func18, Try.ntmps18
  go_wp2
  generalize w.alloc (.cells x.vals.toArray 46) = w1 at *
  have a56 : w1.cell? ⟨w.heap.size, 56, none⟩ = some (.slice x.ea l.length x.ec) := by rw [hX.cell 56, ← ne]; rfl
  have a57 : w1.cell? ⟨w.heap.size, 57, none⟩ = some (.slice x.ua p.length x.uc) := by rw [hX.cell 57, ← nu]; rfl
  have a1 : w1.cell? ⟨w.heap.size, 1, none⟩ = some (.string (bs x.fh)) := hX.cell 1
  have a50 : w1.cell? ⟨w.heap.size, 53, none⟩ = some (.string (bs x.data)) := hX.cell 53
  have zf := bs_size x.fh
  have zd := bs_size x.data
  have hltX := hX.lt
  have HB := Lib.hid hB
  clear hB hX ne nu
  generalize x.ea = xa at *
  generalize x.ua = xu at *
  generalize x.ec = xc at *
  generalize x.uc = xd at *
  generalize x.fh = fh at *
  generalize x.data = dt at *
  go_loop [3] (fun i => ∃ k : Nat, k ≤ l.length ∧ k ≤ 70 ∧ i = .int .i64 k) (fun i => l.length - (intOf i).toNat)
  case atStart => exact ⟨0, Nat.zero_le _, by omega, rfl⟩
  case round =>
    obtain ⟨k, hk, hk7, rfl⟩ := hrel
    by_cases hlt : k < l.length ∧ k < 70
    · obtain ⟨hlt, hlt7⟩ := hlt
      obtain ⟨b, off, rfl, hb, -, hc⟩ := rowCell8 Entry.len (by omega) hAe hlt
      have c1 := hc 1 (.string (bs l[k].name)) rfl
      have c4 := hc 14 (.string (bs l[k].fh)) rfl
      have z1 := bs_size l[k].name
      have z4 := bs_size l[k].fh
      clear hc hAe
      generalize l[k] = y at *
      go_wp2
      case roundEnd =>
        go_round
        case rel => exact ⟨k + 1, by omega, by omega, by go_num⟩
        case measure => simp [intOf]; omega
      all_goals (go_ret; exact SaysL.of true (fun h => by cases h) HB.out)
    · have hE : l.length ≤ k ∨ 70 ≤ k := by omega
      clear hlt hAe
      by_cases h1 : k < l.length
      · have p1 : (k : Int) < (l.length : Int) := by omega
        have p2 : ¬ (k : Int) < 70 := by omega
        have p3 : (70 : Int) < (l.length : Int) := by omega
        clear hE h1
        go_wp2
        all_goals (go_ret; exact SaysL.of true (fun h => by cases h) HB.out)
      · have p1 : ¬ (k : Int) < (l.length : Int) := by omega
        have p3 : ¬ (70 : Int) < (l.length : Int) := by omega
        clear hE h1
        go_wp2
        all_goals (go_ret; first | exact SaysL.of true (fun h => by cases h) HB.out | exact SaysL.of _ (fun _ => by omega) HB.out)
end Go.Proofs.Ytmkhpgpnahligaa

/-
  A row of structs of the call's own: one of them is stored anew; some are cleared. Conditions: sizes.
-/
namespace Go.Proofs.Ytmkhpgpnahligaa
open Go.RowKit

theorem size_setCells_ (b : Nat) : ∀ (vs : List Value) (o : Nat) (w : World), (w.setCells b o vs).heap.size = w.heap.size
  | [], _, _ => rfl
  | v :: vs, o, w => by rw [World.setCells, size_setCells_ b vs]; simp [World.setCell]
theorem setAt_mid : ∀ (r m a b : List Value), m.length = r.length → setAt (a ++ (m ++ b)) a.length r = a ++ (r ++ b)
  | [], m, a, b, h => by
    obtain rfl : m = [] := List.eq_nil_of_length_eq_zero h
    rfl
  | c :: r, [], a, b, h => by simp at h
  | c :: r, x :: m, a, b, h => by
    rw [setAt]
    have e : (a ++ (x :: m ++ b)).set a.length c = (a ++ [c]) ++ (m ++ b) := by simp
    rw [e]
    have := setAt_mid r m (a ++ [c]) b (by simpa using h)
    rw [List.length_append, List.length_singleton] at this
    rw [this]
    simp
theorem Touch.setRow {F : Nat → Prop} {g : Nat} (hg : F g) : ∀ (cs : List Value) (o : Nat) {a b : World}, Touch F a b → Touch F a (b.setCells g o cs)
  | [], _, _, _, h => h
  | c :: cs, o, _, _, h => by
    rw [World.setCells]
    exact Touch.setRow hg cs (o + 1) (h.setCell (.inl hg) c)
section
variable {w w' : World} {B : Nat} {e : TypeId} {sz : Nat}
theorem ownsRow_sets {base size n g cap : Nat} : ∀ (cs xs : List Value) (o : Nat) {w : World}, w.ownsRow base e size (.slice (some ⟨g, 0, none⟩) n cap) n xs → (w.setCells g o cs).ownsRow base e size (.slice (some ⟨g, 0, none⟩) n cap) n (setAt xs o cs)
  | [], _, _, _, h => h
  | c :: cs, xs, o, _, h => by
    rw [World.setCells, setAt]
    exact ownsRow_sets cs _ (o + 1) (h.stored o c).1
/-- one row is stored anew -/
theorem RowS.put {g n cap : Nat} {pre post : List (List Value)} {m r : List Value} (h : RowS w B e sz (.slice (some ⟨g, 0, none⟩) n cap) (pre ++ m :: post)) (hr : r.length = sz) (hn : n = (pre ++ m :: post).length) :
    RowS (w.setCells g (pre.length * sz) r) B e sz (.slice (some ⟨g, 0, none⟩) n cap) (pre ++ r :: post) := by
  obtain ⟨hl, hown⟩ := h
  have hm : m.length = sz := hl m (by simp)
  have hlp : ∀ q ∈ pre, q.length = sz := fun q hq => hl q (by simp [hq])
  have hpl : pre.flatten.length = pre.length * sz := by
    clear hown hl hn
    induction pre with
    | nil => simp
    | cons q pre ih =>
      rw [List.flatten_cons, List.length_append, hlp q (by simp), ih (fun q hq => hlp q (List.mem_cons_of_mem _ hq)), List.length_cons, Nat.succ_mul]
      omega
  refine ⟨fun q hq => ?_, ?_⟩
  · rcases List.mem_append.1 hq with hq | hq
    · exact hlp q hq
    · rcases List.mem_cons.1 hq with rfl | hq
      · exact hr
      · exact hl q (by simp [hq])
  · rw [← hn] at hown
    have := ownsRow_sets r _ (pre.length * sz) hown
    have e1 : (pre ++ r :: post).length = n := by rw [hn]; simp
    have e2 : setAt (pre ++ m :: post).flatten (pre.length * sz) r = (pre ++ r :: post).flatten := by
      rw [List.flatten_append, List.flatten_cons, ← hpl, setAt_mid r m _ _ (by omega), List.flatten_append, List.flatten_cons]
    rw [e2] at this
    rw [e1]
    exact this
/-- rows ahead of a place stay, whatever is stored from there on -/
theorem At.prefix_ {g : Nat} {pre post : List (List Value)} (h : At w sz (some ⟨g, 0, none⟩) (pre ++ post)) (hl : ∀ r ∈ pre, r.length = sz) (cs : List Value) : At (w.setCells g (pre.length * sz) cs) sz (some ⟨g, 0, none⟩) pre := by
  intro i r hi
  have hip : i < pre.length := (List.getElem?_eq_some_iff.1 hi).1
  have hi2 : (pre ++ post)[i]? = some r := by rw [List.getElem?_append_left hip]; exact hi
  obtain ⟨b, off, hA, hb, hc⟩ := h i r hi2
  injection hA with hA
  injection hA with hg ho _
  subst hg ho
  refine ⟨g, 0, rfl, by rw [size_setCells_]; exact hb, fun j u hj => ?_⟩
  have hjl : j < r.length := (List.getElem?_eq_some_iff.1 hj).1
  rw [hl r (List.mem_of_getElem? hi)] at hjl
  have hlt : i * sz + j < pre.length * sz := by
    have : (i + 1) * sz ≤ pre.length * sz := Nat.mul_le_mul_right _ hip
    rw [Nat.succ_mul] at this
    omega
  rw [World.cell?_setCells_out g cs _ w _ (fun _ _ => .inl (by show 0 + i * sz + j < _; omega))]
  exact hc j u hj
variable {P : Program}
/-- 'clear(s)' of n > 0 elements of sz cells each -/
theorem run_clear_rows (w : World) (t e ty : TypeId) (z : Value) (ht : P.underlying t = some (.slice e)) (hv : ∀ w, (zeroValue e).run P w = .ok z w) (hz : z.cells.size = sz) (h0 : 0 < sz) (h1 : ∀ u ∈ z.cells.toList, u.oneCell' = true) (b o n c : Nat) (hn : 0 < n)
    (hc : ∀ j, j < n * sz → (w.cell? ⟨b, o + j, none⟩).isSome = true) (hf : ∀ j, j < n * sz → w.frozen? ⟨b, o + j, none⟩ = false) :
    ∃ zs : List Value, (Builtin.clear_ #[t] ty #[.slice (some ⟨b, o, none⟩) n c]).run P w = .ok (.tuple #[]) (w.setCells b o zs) := by
  refine ⟨(Builtin.zeroCells z.cells n).toList, ?_⟩
  have hl : (Builtin.zeroCells z.cells n).toList.length = n * sz := by rw [Array.length_toList, size_zeroCells, hz]
  have hst := run_storeCells_cells (P := P) b o (Builtin.zeroCells z.cells n).toList 0 w (by rw [hl]; simpa using hc) (by rw [hl]; simpa using hf) (by
    intro v hv'
    simp only [Builtin.zeroCells, Array.toList_map, List.mem_map] at hv'
    obtain ⟨i, hi, rfl⟩ := hv'
    have hlt : i % z.cells.size < z.cells.size := Nat.mod_lt _ (by omega)
    rw [getElem!_pos z.cells _ hlt]
    exact h1 _ (by simp))
  simp only [Nat.add_zero] at hst
  obtain ⟨m, rfl⟩ : ∃ m, n = m + 1 := ⟨n - 1, by omega⟩
  simp [Builtin.clear_, run_underlying ht, hv, hst]
end
end Go.Proofs.Ytmkhpgpnahligaa


/-
  Layer 8, walks: a reply's Clone. Conditions: lengths.
-/
namespace Go.Proofs.Ytmkhpgpnahligaa
open Go.RowKit
attribute [local go_sem ↓] Go.wp_at_zero Go.wp_at_succ
attribute [local go_sem] rowAt_ptr rowOf_drew rowOf_drewN rowOf_alloc_past rowOf_new
attribute [local go_sem ↓] ldReply

attribute [local go_sem] Reply.at0 Reply.lat0 Reply.at1 Reply.lat1 Reply.at2 Reply.lat2 Reply.at3 Reply.lat3 Reply.at4 Reply.lat4 Reply.at5 Reply.lat5 Reply.at6 Reply.lat6 Reply.at7 Reply.lat7 Reply.at8 Reply.lat8 Reply.at9 Reply.lat9 Reply.at10 Reply.lat10 Reply.at11 Reply.lat11 Reply.at12 Reply.lat12 Reply.at13 Reply.lat13 Reply.at14 Reply.lat14 Reply.at15 Reply.lat15 Reply.at16 Reply.lat16 Reply.at17 Reply.lat17 Reply.at18 Reply.lat18 Reply.at19 Reply.lat19 Reply.at20 Reply.lat20 Reply.at21 Reply.lat21 Reply.at22 Reply.lat22 Reply.at23 Reply.lat23 Reply.at24 Reply.lat24 Reply.at25 Reply.lat25 Reply.at26 Reply.lat26 Reply.at27 Reply.lat27 Reply.at28 Reply.lat28 Reply.at29 Reply.lat29 Reply.at30 Reply.lat30 Reply.at31 Reply.lat31 Reply.at32 Reply.lat32 Reply.at33 Reply.lat33 Reply.at34 Reply.lat34 Reply.at35 Reply.lat35 Reply.at36 Reply.lat36 Reply.at37 Reply.lat37 Reply.at38 Reply.lat38 Reply.at39 Reply.lat39 Reply.at40 Reply.lat40 Reply.at41 Reply.lat41 Reply.at42 Reply.lat42 Reply.at43 Reply.lat43 Reply.at44 Reply.lat44 Reply.at45 Reply.lat45 Reply.at46 Reply.lat46 Reply.at47 Reply.lat47 Reply.at48 Reply.lat48 Reply.at49 Reply.lat49 Reply.at50 Reply.lat50 Reply.at51 Reply.lat51 Reply.at52 Reply.lat52 Reply.at53 Reply.lat53 Reply.at54 Reply.lat54 Reply.at55 Reply.lat55 Reply.at56 Reply.lat56 Reply.at57 Reply.lat57 Reply.sub0_58 Reply.lsub0_58 Reply.sub2_11 Reply.lsub2_11 Reply.sub3_10 Reply.lsub3_10 Reply.sub13_11 Reply.lsub13_11 Reply.sub14_10 Reply.lsub14_10 Reply.sub24_13 Reply.lsub24_13 Reply.sub24_2 Reply.lsub24_2 Reply.sub26_11 Reply.lsub26_11 Reply.sub27_10 Reply.lsub27_10 Reply.sub37_13 Reply.lsub37_13 Reply.sub37_2 Reply.lsub37_2 Reply.sub39_11 Reply.lsub39_11 Reply.sub40_10 Reply.lsub40_10 Reply.len

set_option maxRecDepth 20000 in
set_option maxHeartbeats 1600000 in
theorem clone8_any (x : RepL) (w : World) (hx : x.There w) (h1 : x.es.length ≤ 1000000) (h2 : x.us.length ≤ 1000000) :
    Calls Try.prog 19 #[.agg x.r.vals.toArray] w fun e w' => ∃ r : Reply, e = .returned (.agg r.vals.toArray) ∧ r.bare = x.r.bare ∧ (RepL.mk r x.es x.us).There w' ∧ RowS w' w.heap.size 35 15 (.slice r.ea r.en r.ec) (x.es.map Entry.vals) ∧ RowS w' w.heap.size 3 1 (.slice r.ua r.un r.uc) (x.us.map int1) ∧ Below w.heap.size w w' := by
  obtain ⟨x, l, p⟩ := x
  obtain ⟨ne, nu, le, lu, hAe, hAu⟩ := hx
  simp only at ne nu le lu hAe hAu h1 h2 ⊢
  obtain ⟨hX, hZ, hB, -⟩ := chain2_blks w x.vals replyZ.vals 46 46
  obtain ⟨w1, hw1⟩ : ∃ u, u = (w.alloc (.cells x.vals.toArray 46)).alloc (.cells replyZ.vals.toArray 46) := ⟨_, rfl⟩
  rw [← hw1] at hX hZ hB
  have HW1 := Lib.hid hw1
  have hAe1 := hAe.below hB
  have e56 : x.vals[56]? = some (.slice x.ea l.length x.ec) := by rw [← ne]; rfl
  have e57 : x.vals[57]? = some (.slice x.ua p.length x.uc) := by rw [← nu]; rfl
  have a56 : w1.cell? ⟨w.heap.size, 56, none⟩ = some (.slice x.ea l.length x.ec) := (hX.cell 56).trans e56
  have H := Lib.hid (And.intro hX (And.intro hZ (And.intro hB (And.intro e57 (And.intro ne nu)))))
  clear hX hZ hB hw1 e56 e57 ne nu
  go_enter Try.func19, Try.ntmps19
  go_upto_region 1 with fail
  change Code.wp _ _ _ _ ((w.alloc (.cells x.vals.toArray 46)).alloc (.cells replyZ.vals.toArray 46))
  rw [← HW1.out]
  clear HW1
  go_upto_region 2 with (first
    | (go_at_call 25; refine (cloneE_at x.ea x.ec l w1 h1 hAe1).mono ?_; rintro e w2 ⟨A, c, rfl, hR, hb⟩; have hX2 := (H.out.1.stays hb).cell 56; have hf2 := (H.out.1.stays hb).frozen 56)
    | fail)
  obtain ⟨hX, hZ, hB, e57, ne, nu⟩ := H.out
  have hX3 := (hX.stays hb).set_ 56 (.slice A l.length c)
  have hlz : w.heap.size < w.heap.size + 1 := by omega
  have hB1 : w.heap.size + 1 < w1.heap.size := hZ.lt
  have hZ3 := (hZ.stays hb).far (p := ⟨w.heap.size, 56, none⟩) (by simp) (.slice A l.length c)
  have hT3 : Touch (fun k => k = w.heap.size) w2 (w2.setCell ⟨w.heap.size, 56, none⟩ (.slice A l.length c)) := (Touch.refl (fun k => k = w.heap.size) w2).setCell (p := ⟨w.heap.size, 56, none⟩) (.inl rfl) (.slice A l.length c)
  have hR3 := hR.touch hT3 (fun k hk => by have := (hR.lt k hk).1; omega)
  have hB3 : Below w.heap.size w (w2.setCell ⟨w.heap.size, 56, none⟩ (.slice A l.length c)) := ((hB.trans (hb.mono (by omega)))).trans (hT3.below (fun k _ h => by omega) (by have := hb.size; omega))
  clear hX hZ hB hT3 hR hX2 hf2 a56 hAe1
  generalize w2.setCell ⟨w.heap.size, 56, none⟩ (.slice A l.length c) = w3 at *
  have hAu3 := hAu.below hB3
  have a57 : w3.cell? ⟨w.heap.size, 57, none⟩ = some (.slice x.ua p.length x.uc) := by rw [hX3.cell 57]; exact e57
  have H3 := Lib.hid (And.intro hX3 (And.intro hZ3 (And.intro hR3 hB3)))
  clear hX3 hZ3 hR3 hB3 e57 H hb hlz
  go_upto_region 3 with (first
    | (go_at_call 31; refine (cloneI_at x.ua x.uc p w3 h2 hAu3).mono ?_; rintro e w4 ⟨U, d, rfl, hU, hb⟩; have hX4 := (H3.out.1.stays hb).cell 57; have hf4 := (H3.out.1.stays hb).frozen 57)
    | fail)
  obtain ⟨hX3, hZ3, hR3, hB3⟩ := H3.out
  have hX5 := (hX3.stays hb).set_ 57 (.slice U p.length d)
  have hZ5 := (hZ3.stays hb).far (p := ⟨w.heap.size, 57, none⟩) (by simp) (.slice U p.length d)
  have hltz := hZ3.lt
  have hT5 : Touch (fun k => k = w.heap.size) w4 (w4.setCell ⟨w.heap.size, 57, none⟩ (.slice U p.length d)) := (Touch.refl (fun k => k = w.heap.size) w4).setCell (p := ⟨w.heap.size, 57, none⟩) (.inl rfl) (.slice U p.length d)
  have hU5 := hU.touch hT5 (fun k hk => by have := (hU.lt k hk).1; omega)
  have hR5 := (hR3.stays hb).touch hT5 (fun k hk => by have := (hR3.lt k hk).1; omega)
  have hB5 : Below w.heap.size w (w4.setCell ⟨w.heap.size, 57, none⟩ (.slice U p.length d)) := ((hB3.trans (hb.mono (by omega)))).trans (hT5.below (fun k _ h => by omega) (by have := hb.size; omega))
  clear hX3 hZ3 hT5 hU hX4 hf4 a57 hAu3 hR3 hB3
  generalize w4.setCell ⟨w.heap.size, 57, none⟩ (.slice U p.length d) = w5 at *
  obtain ⟨r, hr⟩ : ∃ r : Reply, r = { x with ea := A, en := l.length, ec := c, ua := U, un := p.length, uc := d } := ⟨_, rfl⟩
  have hrv : (x.vals.set 56 (.slice A l.length c)).set 57 (.slice U p.length d) = r.vals := by rw [hr]; rfl
  rw [hrv] at hX5
  have hrow : rowOf w5 w.heap.size 0 58 = some r.vals.toArray := rowOf_of hX5.range (Reply.len r) (by omega)
  have hT6 : Touch (fun k => k = w.heap.size + 1) w5 (w5.setCells (w.heap.size + 1) 0 r.vals) := Touch.setRow (F := fun k => k = w.heap.size + 1) rfl _ _ (Touch.refl _ _)
  have hR6 := hR5.touch hT6 (fun k hk => by have := (hR5.lt k hk).1; omega)
  have hU6 := hU5.touch hT6 (fun k hk => by have := (hU5.lt k hk).1; omega)
  have hB6 : Below w.heap.size w (w5.setCells (w.heap.size + 1) 0 r.vals) := hB5.trans (hT6.below (fun k _ h => by omega) (by have := hZ5.lt; omega))
  have H6 := Lib.hid (And.intro hR6 (And.intro hU6 hB6))
  have HR := Lib.hid (show r.bare = x.bare ∧ r.ea = A ∧ r.en = l.length ∧ r.ec = c ∧ r.ua = U ∧ r.un = p.length ∧ r.uc = d from by subst hr; exact ⟨rfl, rfl, rfl, rfl, rfl, rfl, rfl⟩)
  clear hr
  clear hT6 hR6 hU6 hB6 hR5 hU5 hX5 hrv hB5 hAe hAu
  go_wp2_with (first | (refine wpList_store_whole (by rfl) 46 _ _ (by rfl) (w.heap.size + 1) r.vals _ hZ5 (by rfl) (by rfl) (by rfl) (by kernel_rfl) (Reply.one _) ?_) | fail)
  refine ret_cells (w.heap.size + 1) 0 r.vals Try.results19 Try.underlying46 rfl (by kernel_rfl) rfl (hZ5.whole (by rfl)).range rfl ?_
  obtain ⟨q0, q1, q2, q3, q4, q5, q6⟩ := HR.out
  obtain ⟨hR6, hU6, hB6⟩ := H6.out
  obtain ⟨A', c', hA', hAt⟩ := hR6.at_
  obtain ⟨U', d', hU', hUt⟩ := hU6.at_
  injection hA' with hA1
  injection hU' with hU1
  subst hA1 hU1
  have hTh : (RepL.mk r l p).There (w5.setCells (w.heap.size + 1) 0 r.vals) := ⟨q2, q5, le, lu, by rw [q1]; exact hAt, by rw [q4]; exact hUt⟩
  have hb3 := hltz
  have hRr := hR6.base (C := w.heap.size) (by omega)
  rw [← q1, ← q2, ← q3] at hRr
  have hUr := hU6.base (C := w.heap.size) (by have := hB1; have := hb3; omega)
  rw [← q4, ← q5, ← q6] at hUr
  exact ⟨r, rfl, q0, hTh, hRr, hUr, hB6⟩
end Go.Proofs.Ytmkhpgpnahligaa
