/-
  Layer 22, walks: a tree in new memory. Condition: a tree that is not too large.
-/
import Derived.Test.YtgifmpobokaejaaGreatDoorM44
import Derived.Test.YtgifmpobokaejaaGreatDoorM33
import Derived.Test.YtgifmpobokaejaaGreatDoorM18
import Derived.Test.YtgifmpobokaejaaGreatDoorM45
import Derived.Test.YtgifmpobokaejaaGreatDoorM06
namespace Go.Proofs.YtgifmpobokaejaaGreatDoor
open Go.RowKit
open Go.RowKit
attribute [local go_sem ↓] Go.wp_at_zero Go.wp_at_succ
attribute [local go_sem] rowAt_ptr rowOf_drew rowOf_drewN rowOf_alloc_past rowOf_new
attribute [local go_sem ↓] ldNode22 ldTree22 ldAttrR ldEntry ldLim22

attribute [local go_sem] laterLd

theorem infoNodeB : (Tryz.prog.info? 65).map (fun i => (i.zero, i.size, i.bytes)) = some (some (.agg ndZ.vals.toArray), 15, 144) := by kernel_rfl
set_option maxRecDepth 20000 in
set_option maxHeartbeats 800000 in
theorem cloneN_at (A : Option Addr) (c : Nat) (l : List Nd) (w : World) (hl : l.length ≤ 1000000) (hA : At w 15 A (l.map Nd.vals)) :
    Calls Tryz.prog 60 #[.slice A l.length c] w fun e w' => ∃ A' c', e = .returned (.slice A' l.length c') ∧ RowS w' w.heap.size 65 15 (.slice A' l.length c') (l.map Nd.vals) ∧ Below w.heap.size w w' := by
  suffices H : Calls Tryz.prog 60 #[.slice A l.length c] w fun e w' => ∃ v, e = .returned v ∧ RowS w' w.heap.size 65 15 v (l.map Nd.vals) ∧ Below w.heap.size w w' by
    refine H.mono ?_
    rintro e w' ⟨v, rfl, hR, hb⟩
    obtain ⟨A', c', rfl, -⟩ := hR.at_
    rw [List.length_map] at hR ⊢
    exact ⟨A', c', rfl, hR, hb⟩
  obtain ⟨i0, hi, hz, hsize, hby⟩ := info_parts infoNodeB
  have q22 : ∀ (w : World) (a : Option Addr) (n c n' c' : Nat), (binOp .eql 24 (.slice a n c) (.slice none n' c')).run Tryz.prog w = .ok (.bool a.isNone) w := fun w a n c n' c' => Lib.run_eql_slice_nil w _ _ a n c n' c' Tryz.underlying24
  have hlen : ∀ r ∈ l.map Nd.vals, r.length = 15 := by
    intro r hr; obtain ⟨x, _, rfl⟩ := List.mem_map.1 hr; rfl
  cases A with
  | none =>
    have h0 : l = [] := by
      cases l with
      | nil => rfl
      | cons x l => obtain ⟨b, off, h, _⟩ := hA 0 x.vals (by simp); cases h
    subst h0
    go_enter Tryz.func60, Tryz.ntmps60
    go_wp2
    go_ret
    exact ⟨_, rfl, RowS.none_, Below.refl _ _⟩
  | some A =>
    have hcell := hA.flat hlen (by omega)
    have hfl := flat_len _ hlen
    rw [List.length_map] at hfl
    have H := Lib.hid (And.intro hcell (And.intro hlen hfl))
    clear hcell hlen hfl hA
    go_enter Tryz.func60, Tryz.ntmps60
    go_wp2_with (at_builtin; refine wpList_append_own _ rfl _ _ 24 rfl w.heap.size 65 i0 (.agg ndZ.vals.toArray) 15 144 Tryz.underlying24 hi hz hsize hby rfl (by decide) _ _ _ rfl (World.ownsRow_made w #[] 0 (Nat.le_refl _) (Nat.zero_le _) rfl) A l.length c (l.map Nd.vals).flatten rfl ?qc1 ?qc2 ?qc3 ?qc4 ?qc5 ?qc6 ?_)
    case qc1 => exact H.out.2.2
    case qc2 => exact fun j u hj => Lib.cell?_alloc_some _ (H.out.1 j u hj)
    case qc3 =>
      intro u hu
      obtain ⟨r, hr, hu⟩ := List.mem_flatten.1 hu
      obtain ⟨x, _, rfl⟩ := List.mem_map.1 hr
      exact x.one u hu
    case qc4 => unfold maxLen; omega
    case qc5 => omega
    case qc6 => simp
    intro v' w1 hown hgrow hnil
    go_wp2
    go_ret
    refine ⟨v', rfl, ⟨H.out.2.1, ?_⟩, ?_⟩
    · rw [List.length_map]
      simpa using hown
    · exact ((Below.refl _ w).alloc (Nat.le_refl _) _).grown hgrow (by simp) (by intro k hk; simp [Value.ownBlock] at hk; omega)

theorem stSlice22 {T : TypeId} (hT : (Tryz.prog.info? T).map (·.size) = some 1) {ρ : Operand → Value} {w : World} {dst : Option Tmp} {ty : TypeId} {pos : String} {after : Array Edge} {g : Option (Nat × Bool)} {x y : Operand} (hx : ptrAt (ρ x) = true) (hy : oneV22 (ρ y) = true) (ht : w.there (blkAt (ρ x)) (offAt (ρ x)) 1) :
    (execOp ρ ⟨dst, .store T x y, ty, pos, after, g⟩).run Tryz.prog w = .ok .skip (putsW w (blkAt (ρ x)) (offAt (ρ x)) [ρ y]) := by
  have hc : (ρ y).cells = #[ρ y] := by
    generalize ρ y = v at *
    cases v <;> first | rfl | cases hy
  have := exStoreAt (P := Tryz.prog) (T := T) (n := 1) hT (ρ := ρ) (w := w) (dst := dst) (ty := ty) (pos := pos) (after := after) (g := g) (x := x) (y := y) hx ⟨by rw [hc]; rfl, by rw [hc]; intro u hu; simp at hu; subst hu; exact oneV22_one _ hy⟩ ht
  rw [this, hc]
theorem stNodes22 {ρ : Operand → Value} {w : World} {dst : Option Tmp} {ty : TypeId} {pos : String} {after : Array Edge} {g : Option (Nat × Bool)} {x y : Operand} (hx : ptrAt (ρ x) = true) (hy : oneV22 (ρ y) = true) (ht : w.there (blkAt (ρ x)) (offAt (ρ x)) 1) :
    (execOp ρ ⟨dst, .store 24 x y, ty, pos, after, g⟩).run Tryz.prog w = .ok .skip (putsW w (blkAt (ρ x)) (offAt (ρ x)) [ρ y]) := stSlice22 (by kernel_rfl) hx hy ht
theorem stEnts22 {ρ : Operand → Value} {w : World} {dst : Option Tmp} {ty : TypeId} {pos : String} {after : Array Edge} {g : Option (Nat × Bool)} {x y : Operand} (hx : ptrAt (ρ x) = true) (hy : oneV22 (ρ y) = true) (ht : w.there (blkAt (ρ x)) (offAt (ρ x)) 1) :
    (execOp ρ ⟨dst, .store 45 x y, ty, pos, after, g⟩).run Tryz.prog w = .ok .skip (putsW w (blkAt (ρ x)) (offAt (ρ x)) [ρ y]) := stSlice22 (by kernel_rfl) hx hy ht
attribute [local go_sem ↓] stNodes22 stEnts22

attribute [local go_sem] ptrAt blkAt offAt oneV22

/-- the same node, but for where its entries lie -/
def HeadS (m n : Nd) : Prop := m.attr = n.attr ∧ m.data = n.data ∧ m.verf = n.verf ∧ m.parent = n.parent ∧ m.last = n.last ∧ m.en = n.en
theorem RowS.putEnts {w : World} {B g n c : Nat} {pre post : List Nd} {x : Nd} (h : RowS w B 65 15 (.slice (some ⟨g, 0, none⟩) n c) ((pre ++ x :: post).map Nd.vals)) (hn : n = (pre ++ x :: post).length) (A : Option Addr) (c' : Nat) {o : Nat} (ho : o = pre.length * 15 + 14) :
    RowS (w.setCells g o [.slice A x.en c']) B 65 15 (.slice (some ⟨g, 0, none⟩) n c) ((pre ++ { x with ea := A, ec := c' } :: post).map Nd.vals) := by
  rw [ho]
  rw [List.map_append, List.map_cons] at h ⊢
  have := RowS.putMid (pre := pre.map Nd.vals) (post := post.map Nd.vals) (a := x.vals.take 14) (m := [.slice x.ea x.en x.ec]) (b := []) (r := [.slice A x.en c']) (by exact h) rfl (by simpa using hn)
  rw [List.length_map] at this
  exact this
theorem RowS.putData {w : World} {B g n c : Nat} {pre post : List Nd} {x : Nd} (h : RowS w B 65 15 (.slice (some ⟨g, 0, none⟩) n c) ((pre ++ x :: post).map Nd.vals)) (hn : n = (pre ++ x :: post).length) (s : ByteArray) {o : Nat} (ho : o = pre.length * 15 + 10) :
    RowS (w.setCells g o [.string s]) B 65 15 (.slice (some ⟨g, 0, none⟩) n c) ((pre ++ { x with data := s } :: post).map Nd.vals) := by
  rw [ho]
  rw [List.map_append, List.map_cons] at h ⊢
  have := RowS.putMid (pre := pre.map Nd.vals) (post := post.map Nd.vals) (a := x.vals.take 10) (m := [.string x.data]) (b := x.vals.drop 11) (r := [.string s]) (by exact h) rfl (by simpa using hn)
  rw [List.length_map] at this
  exact this
theorem At.puts {w : World} {sz g o : Nat} {A : Option Addr} {rows : List (List Value)} {cs : List Value} (h : At w sz A rows) (hg : rows = [] ∨ ∀ p, A = some p → p.block ≠ g) : At (w.setCells g o cs) sz A rows := by
  rcases hg with rfl | hg
  · exact At.nil
  · exact h.touch (F := fun k => k = g) (Touch.setCells (F := fun k => k = g) (g := g) (.inl rfl) cs o w (Touch.refl _ _)) (fun b off hA hb => hg _ hA hb)
/-- each node's head as it was, and its entries somewhere else than in some blocks -/
structure Copy (w : World) (F : Nat → Prop) (ms : List Nd) (ps : List (Nd × List Entry)) : Prop where
  len : ms.length = ps.length
  head : ∀ (j : Nat) (h1 : j < ms.length) (h2 : j < ps.length), HeadS ms[j] ps[j].1
  ents : ∀ (j : Nat) (h1 : j < ms.length) (h2 : j < ps.length), At w 15 ms[j].ea (ps[j].2.map Entry.vals) ∧ (ps[j].2.map Entry.vals = [] ∨ ∀ p, ms[j].ea = some p → ¬ F p.block)
theorem Copy.below {w w' : World} {F : Nat → Prop} {ms : List Nd} {ps : List (Nd × List Entry)} (h : Copy w F ms ps) (hb : Below w.heap.size w w') : Copy w' F ms ps :=
  ⟨h.len, h.head, fun j h1 h2 => ⟨(h.ents j h1 h2).1.below hb, (h.ents j h1 h2).2⟩⟩
theorem Copy.less {w : World} {F G : Nat → Prop} {ms : List Nd} {ps : List (Nd × List Entry)} (h : Copy w F ms ps) (hG : ∀ k, G k → F k) : Copy w G ms ps :=
  ⟨h.len, h.head, fun j h1 h2 => ⟨(h.ents j h1 h2).1, (h.ents j h1 h2).2.imp id fun h p hp hg => h p hp (hG _ hg)⟩⟩
theorem Copy.sets {w : World} {F : Nat → Prop} {g o : Nat} {cs : List Value} {ms : List Nd} {ps : List (Nd × List Entry)} (h : Copy w F ms ps) (hg : F g) : Copy (w.setCells g o cs) F ms ps :=
  ⟨h.len, h.head, fun j h1 h2 => ⟨(h.ents j h1 h2).1.puts ((h.ents j h1 h2).2.imp id fun h p hp e => h p hp (e ▸ hg)), (h.ents j h1 h2).2⟩⟩
theorem Copy.set {w : World} {F : Nat → Prop} {k : Nat} {ms : List Nd} {ps : List (Nd × List Entry)} (h : Copy w F ms ps) (hk : k < ms.length) (A : Option Addr) (c' : Nat) (hp : k < ps.length) (hA : At w 15 A (ps[k].2.map Entry.vals)) (hg : ∀ p, A = some p → ¬ F p.block) :
    Copy w F (ms.set k { ms[k] with ea := A, ec := c' }) ps := by
  refine ⟨by rw [List.length_set]; exact h.len, fun j h1 h2 => ?_, fun j h1 h2 => ?_⟩
  · rw [List.length_set] at h1
    rw [List.getElem_set]
    split
    · rename_i e
      subst e
      exact h.head k hk h2
    · exact h.head j h1 h2
  · rw [List.length_set] at h1
    rw [List.getElem_set]
    split
    · rename_i e
      subst e
      exact ⟨hA, .inr hg⟩
    · exact h.ents j h1 h2
theorem Copy.start {w w' : World} {F : Nat → Prop} {t : Tr} {ps : List (Nd × List Entry)} (hT : TreeH w t ps) (hb : Below w.heap.size w w') (hF : ∀ k, F k → w.heap.size ≤ k) : Copy w' F t.ns ps := by
  have hns := hT.ns
  refine ⟨by rw [hns, List.length_map], fun j h1 h2 => ?_, fun j h1 h2 => ?_⟩
  · have e : t.ns[j] = ps[j].1 := by simp only [hns, List.getElem_map]
    rw [e]
    exact ⟨rfl, rfl, rfl, rfl, rfl, rfl⟩
  · have e : t.ns[j] = ps[j].1 := by simp only [hns, List.getElem_map]
    rw [e]
    have hA := (hT.ents _ (List.getElem_mem h2)).2
    refine ⟨hA.below hb, ?_⟩
    cases hr : ps[j].2.map Entry.vals with
    | nil => exact .inl rfl
    | cons r rs =>
      refine .inr fun p hp hf => ?_
      obtain ⟨b, off, h3, h4, -⟩ := hA 0 r (by rw [hr]; rfl)
      rw [h3] at hp
      injection hp with hp
      subst hp
      have h5 : w.heap.size ≤ b := hF _ hf
      omega
/-- the nodes of a copy, with their entries -/
def withE (ms : List Nd) (ps : List (Nd × List Entry)) : List (Nd × List Entry) := List.zipWith (fun m p => (m, p.2)) ms ps
theorem withE_fst {ms : List Nd} {ps : List (Nd × List Entry)} (h : ms.length = ps.length) : (withE ms ps).map (·.1) = ms := by
  unfold withE
  induction ms generalizing ps with
  | nil => rfl
  | cons m ms ih =>
    cases ps with
    | nil => cases h
    | cons p ps =>
      rw [List.zipWith_cons_cons, List.map_cons, ih (by simpa using h)]
theorem withE_len {ms : List Nd} {ps : List (Nd × List Entry)} (h : ms.length = ps.length) : (withE ms ps).length = ps.length := by
  unfold withE
  rw [List.length_zipWith]
  omega
theorem withE_at {ms : List Nd} {ps : List (Nd × List Entry)} {j : Nat} (hj : j < (withE ms ps).length) (h1 : j < ms.length) (h2 : j < ps.length) : (withE ms ps)[j] = (ms[j], ps[j].2) := by
  simp [withE]
theorem Copy.tree {w w0 : World} {F : Nat → Prop} {ms : List Nd} {ps : List (Nd × List Entry)} {t u : Tr} (h : Copy w F ms ps) (hT : TreeH w0 t ps) (hu : u.ns = ms) (hA : At w 15 u.na (ms.map Nd.vals)) : TreeH w u (withE ms ps) := by
  have hl := withE_len h.len
  have hmem : ∀ q ∈ withE ms ps, ∃ (j : Nat) (h1 : j < ms.length) (h2 : j < ps.length), q = (ms[j], ps[j].2) := fun q hq => by
    obtain ⟨j, hj, rfl⟩ := List.getElem_of_mem hq
    exact ⟨j, by rw [hl] at hj; rw [h.len]; exact hj, by rw [hl] at hj; exact hj, withE_at hj _ _⟩
  refine ⟨by rw [hu, withE_fst h.len], by rw [hu]; exact hA, fun q hq => ?_, ⟨by rw [hu, h.len]; have := hT.few.1; rw [hT.ns, List.length_map] at this; exact this, fun n hn => ?_⟩, fun q hq => ?_, fun m hm => ?_⟩
  · obtain ⟨j, h1, h2, rfl⟩ := hmem q hq
    exact ⟨(h.head j h1 h2).2.2.2.2.2.trans (hT.ents _ (List.getElem_mem h2)).1, (h.ents j h1 h2).1⟩
  · rw [hu] at hn
    obtain ⟨j, h1, rfl⟩ := List.getElem_of_mem hn
    have h2 : j < ps.length := by rw [← h.len]; exact h1
    rw [(h.head j h1 h2).2.1]
    exact hT.few.2 _ (by rw [hT.ns]; exact List.mem_map_of_mem (List.getElem_mem h2))
  · obtain ⟨j, h1, h2, rfl⟩ := hmem q hq
    exact hT.rows ps[j] (List.getElem_mem h2)
  · rw [hu] at hm
    obtain ⟨j, h1, rfl⟩ := List.getElem_of_mem hm
    have h2 : j < ps.length := by rw [← h.len]; exact h1
    rw [(h.head j h1 h2).1]
    exact hT.gens _ (by rw [hT.ns]; exact List.mem_map_of_mem (List.getElem_mem h2))
theorem Copy.same {w : World} {F : Nat → Prop} {ms : List Nd} {ps : List (Nd × List Entry)} {t u : Tr} (h : Copy w F ms ps) (h1 : u.lim = t.lim) (h2 : u.now = t.now) (h3 : u.gens = t.gens) : SameT u (withE ms ps) t ps := by
  refine ⟨h1, h2, h3, withE_len h.len, fun k hk hq => ?_⟩
  have hm : k < ms.length := by rw [h.len]; exact hq
  rw [withE_at hk hm hq]
  obtain ⟨e1, e2, e3, e4, e5, -⟩ := h.head k hm hq
  exact ⟨e1, by unfold dataL; rw [e2], e3, e4, e5, rfl⟩
/-- what Clone gives -/
def CloneP (t : Tr) (ps : List (Nd × List Entry)) (w : World) (e : Ending) (w' : World) : Prop :=
  ∃ (u : Tr) (g : Nat), e = .returned (.agg u.vals.toArray) ∧ u.lim = t.lim ∧ u.now = t.now ∧ u.gens = t.gens ∧ Copy w' (fun k => k = g) u.ns ps ∧ (∀ p, u.na = some p → p = ⟨g, 0, none⟩) ∧
    RowS w' w.heap.size 65 15 (.slice u.na u.ns.length u.nc) (u.ns.map Nd.vals) ∧ Below w.heap.size w w'
theorem split_at {ms : List Nd} {k : Nat} (hk : k < ms.length) : ms = ms.take k ++ ms[k] :: ms.drop (k + 1) := by
  rw [← List.drop_eq_getElem_cons hk, List.take_append_drop]
theorem set_at {ms : List Nd} {k : Nat} (hk : k < ms.length) (x : Nd) : ms.set k x = ms.take k ++ x :: ms.drop (k + 1) := by
  rw [List.set_eq_take_append_cons_drop, if_pos hk]
set_option maxRecDepth 20000 in
set_option maxHeartbeats 3200000 in
theorem lookClone_any (t : Tr) (ps : List (Nd × List Entry)) (w : World) (hT : TreeH w t ps) :
    Calls Tryz.prog 24 #[t.val] w (CloneP t ps w) := by
  obtain ⟨bT, bR, hB, hs⟩ := chain2_blks w t.vals trZ.vals 26 26
  obtain ⟨w1, hw1⟩ : ∃ V, V = (w.alloc (.cells t.vals.toArray 26)).alloc (.cells trZ.vals.toArray 26) := ⟨_, rfl⟩
  rw [← hw1] at bT bR hB hs
  have c5 : w1.cell? ⟨w.heap.size, 5, none⟩ = some (.slice t.na t.ns.length t.nc) := bT.cell 5
  have hlen := hT.few.1
  have hlp : t.ns.length = ps.length := by rw [hT.ns, List.length_map]
  have HW1 := Lib.hid hw1
  have HT := Lib.hid hT
  have HB := Lib.hid hB
  have KN := Lib.hid (cloneN_at t.na t.nc t.ns w1 (by omega) (hT.at_.below hB))
  have hsz : w1.heap.size = w.heap.size + 2 := by rw [hs]
  have HBT := Lib.hid bT
  have HBR := Lib.hid bR
  have HLP := Lib.hid hlp
  clear hw1 hT hB hs hlp bT bR
  unfold Tr.val
  go_enter Tryz.func24, Tryz.ntmps24
  go_upto_region 1 with fail
  change Code.wp _ _ _ _ ((w.alloc (.cells t.vals.toArray 26)).alloc (.cells trZ.vals.toArray 26))
  rw [← HW1.out]
  have HSZ := Lib.hid hsz
  clear hsz
  go_wp2_with fail
  refine KN.out.mono ?_
  rintro e w2 ⟨A, c, rfl, hR, hb⟩
  have bT2 := HBT.out.stays hb
  have ht2 : w2.there w.heap.size 5 1 := bT2.there 5 1 (by rw [Tr.len]; omega)
  have HBT2 := Lib.hid bT2
  have HBR2 := Lib.hid (HBR.out.stays hb)
  have HR2 := Lib.hid hR
  have HB2 := Lib.hid hb
  clear c5 KN bT2 hR hb HBT HBR
  go_upto_region 2 with fail
  obtain ⟨w3, hw3⟩ : ∃ V, V = putsW w2 w.heap.size 5 [Value.slice A t.ns.length c] := ⟨_, rfl⟩
  rw [← hw3]
  rw [putsW_eq] at hw3
  obtain ⟨g, hg⟩ : ∃ g : Nat, w1.heap.size ≤ g ∧ ∀ p, A = some p → p = ⟨g, 0, none⟩ := by
    rcases HR2.out.2.2 with ⟨h1, h2⟩ | ⟨g, cap, cur, h1, h2, _⟩
    · injection h1 with h1
      subst h1
      exact ⟨w1.heap.size, Nat.le_refl _, fun p hp => by cases hp⟩
    · injection h1 with h1
      subst h1
      exact ⟨g, h2, fun p hp => by injection hp with hp; exact hp.symm⟩
  obtain ⟨u0, hu0⟩ : ∃ u : Tr, u = ⟨t.lim, t.now, t.gens, A, c, t.ns⟩ := ⟨_, rfl⟩
  have hgn := hg.1
  have HG := Lib.hid hg.2
  have hs2 : w.heap.size + 2 ≤ w1.heap.size := by rw [HSZ.out]; exact Nat.le_refl _
  have HF3 := Lib.hid (fun k => (show (k = g ∨ k = w.heap.size ∨ k = w.heap.size + 1) → w.heap.size ≤ k from fun h => by omega))
  have HB3 := Lib.hid (show Below w.heap.size w w3 by rw [hw3]; exact Below.setCells (Nat.le_refl _) _ _ _ (below_then HB.out HB2.out))
  have HBT3 := Lib.hid (show Blk w3 w.heap.size 26 u0.vals by rw [hw3, hu0]; exact Blk.sets [Value.slice A t.ns.length c] t.vals 5 w2 HBT2.out)
  have HBR3 := Lib.hid (show Blk w3 (w.heap.size + 1) 26 trZ.vals by rw [hw3]; exact Blk.farCells (b := w.heap.size) (by omega) _ _ _ HBR2.out)
  have HR3 := Lib.hid (show RowS w3 w1.heap.size 65 15 (.slice A t.ns.length c) (t.ns.map Nd.vals) by
    rw [hw3]
    exact HR2.out.touch (F := fun k => k = w.heap.size) (Touch.setCells (F := fun k => k = w.heap.size) (g := w.heap.size) (.inl rfl) _ 5 w2 (Touch.refl _ _)) (fun k hk e => by have := (HR2.out.lt k hk).1; omega))
  have HC3 := Lib.hid (show Copy w3 (fun k => k = g ∨ k = w.heap.size ∨ k = w.heap.size + 1) t.ns ps from Copy.start HT.out HB3.out HF3.out)
  have hcT : w3.cell? ⟨w.heap.size, 5, none⟩ = some (.slice A t.ns.length c) := by rw [HBT3.out.cell 5, hu0]; rfl
  have HU0 := Lib.hid hu0
  have h70 := fun (k : Nat) (hk : k < ps.length) => (HT.out.rows _ (List.getElem_mem hk)).1
  have H70 := Lib.hid h70
  have HEN := Lib.hid (fun (k : Nat) (hk : k < ps.length) => (HT.out.ents _ (List.getElem_mem hk)).1)
  clear hw3 hu0 ht2 HR2 HB2 HBT2 HBR2 hg h70 HB
  go_wp2
  go_loopw [11] (fun i wr => ∃ (k : Nat) (ms : List Nd), k ≤ t.ns.length ∧ i = .int .i64 k ∧ ms.length = t.ns.length ∧ RowS wr w1.heap.size 65 15 (.slice A t.ns.length c) (ms.map Nd.vals) ∧ Copy wr (fun k => k = g ∨ k = w.heap.size ∨ k = w.heap.size + 1) ms ps ∧
    Blk wr w.heap.size 26 u0.vals ∧ Blk wr (w.heap.size + 1) 26 trZ.vals ∧ Below w.heap.size w wr) (fun i _ => t.ns.length - (intOf i).toNat)
  case atStart => exact ⟨0, t.ns, Nat.zero_le _, rfl, rfl, HR3.out, HC3.out, HBT3.out, HBR3.out, HB3.out⟩
  case round =>
    obtain ⟨k, ms, hk, rfl, hml, hR, hC, bT, bR, hb⟩ := hrel
    have hk0 : (0 : Int) ≤ (k : Int) := Int.natCast_nonneg _
    clear hcT
    have hcT : wr.cell? ⟨w.heap.size, 5, none⟩ = some (.slice A t.ns.length c) := by rw [bT.cell 5, HU0.out]; rfl
    by_cases hlt : k < t.ns.length
    · have hk1 : (k : Int) < (t.ns.length : Int) := by omega
      have hiw : IntKind.i64.wrap ((k : Int) + 1) = ((k + 1 : Nat) : Int) := by rw [IntWalk.i64_in _ (by omega)]; omega
      have hkm : k < ms.length := by omega
      have hkp : k < ps.length := by have := HLP.out; omega
      obtain ⟨b1, o1, hA1, hb1, -, cc⟩ := rowCell8 Nd.len (by decide) hR.rows hkm
      have e1 := HG.out _ hA1
      injection e1 with e2 e3 _
      subst e2 e3
      subst hA1
      have hen : ms[k].en = ps[k].2.length := (hC.head k hkm hkp).2.2.2.2.2.trans (HEN.out k hkp)
      have c14 : wr.cell? ⟨b1, 0 + k * 15 + 14, none⟩ = some (.slice ms[k].ea ps[k].2.length ms[k].ec) := by rw [← hen]; exact cc 14 _ rfl
      rw [Nat.zero_add] at c14
      have HTH := Lib.hid (fun W (h : Below wr.heap.size wr W) => (show W.there b1 (k * 15 + 14) 1 from RowS.thereAt (hR.stays h) (by rw [List.length_map]; exact hml.symm) _ _ (by omega)))
      have KC := Lib.hid (fun W (h : Below wr.heap.size wr W) => cloneE_at ms[k].ea ms[k].ec ps[k].2 W (by have := H70.out k hkp; omega) ((hC.ents k hkm hkp).1.below h))
      have HNX := Lib.hid (fun (W V : World) (A' : Option Addr) (c' : Nat) (h : Below wr.heap.size wr W) (hRe : RowS V W.heap.size 80 15 (.slice A' ps[k].2.length c') (ps[k].2.map Entry.vals)) (hbV : Below W.heap.size W V) =>
        (show ∃ ms' : List Nd, ms'.length = t.ns.length ∧ RowS (putsW V b1 (k * 15 + 14) [.slice A' ps[k].2.length c']) w1.heap.size 65 15 (.slice (some ⟨b1, 0, none⟩) t.ns.length c) (ms'.map Nd.vals) ∧ Copy (putsW V b1 (k * 15 + 14) [.slice A' ps[k].2.length c']) (fun k => k = b1 ∨ k = w.heap.size ∨ k = w.heap.size + 1) ms' ps ∧
          Blk (putsW V b1 (k * 15 + 14) [.slice A' ps[k].2.length c']) w.heap.size 26 u0.vals ∧ Blk (putsW V b1 (k * 15 + 14) [.slice A' ps[k].2.length c']) (w.heap.size + 1) 26 trZ.vals ∧ Below w.heap.size w (putsW V b1 (k * 15 + 14) [.slice A' ps[k].2.length c']) by
          rw [putsW_eq]
          have hWV := below_then h hbV
          have hb1s : b1 < wr.heap.size := hb1
          refine ⟨ms.set k { ms[k] with ea := A', ec := c' }, by rw [List.length_set]; exact hml, ?_, ?_, ?_, ?_, ?_⟩
          · have hRV := hR.stays hWV
            rw [split_at hkm] at hRV
            have := hRV.putEnts (by rw [← split_at hkm]; exact hml.symm) A' c' (o := k * 15 + 14) (by rw [List.length_take]; congr 2; omega)
            rw [← hen, set_at hkm]
            exact this
          · refine Copy.set (Copy.sets (hC.below hWV) (.inl rfl)) hkm A' c' hkp ?_ ?_
            · exact hRe.rows.puts (.inr fun p hp => by have := (hRe.lt p.block (by rw [hp]; rfl)).1; have := h.size; omega)
            · intro p hp hf
              have h5 := (hRe.lt p.block (by rw [hp]; rfl)).1
              have h6 := h.size
              have h7 := bT.lt
              have h8 := bR.lt
              rcases hf with hf | hf | hf <;> omega
          · exact Blk.farCells (b := b1) (by omega) _ _ _ (bT.stays hWV)
          · exact Blk.farCells (b := b1) (by omega) _ _ _ (bR.stays hWV)
          · exact Below.setCells (by omega) _ _ _ (below_then hb hWV)))
      have HS5 := Lib.hid (fun (V : World) (A' : Option Addr) (c' : Nat) (h : ∃ ms' : List Nd, ms'.length = t.ns.length ∧ RowS (putsW V b1 (k * 15 + 14) [.slice A' ps[k].2.length c']) w1.heap.size 65 15 (.slice (some ⟨b1, 0, none⟩) t.ns.length c) (ms'.map Nd.vals) ∧ Copy (putsW V b1 (k * 15 + 14) [.slice A' ps[k].2.length c']) (fun k => k = b1 ∨ k = w.heap.size ∨ k = w.heap.size + 1) ms' ps ∧
          Blk (putsW V b1 (k * 15 + 14) [.slice A' ps[k].2.length c']) w.heap.size 26 u0.vals ∧ Blk (putsW V b1 (k * 15 + 14) [.slice A' ps[k].2.length c']) (w.heap.size + 1) 26 trZ.vals ∧ Below w.heap.size w (putsW V b1 (k * 15 + 14) [.slice A' ps[k].2.length c'])) =>
        (show (putsW V b1 (k * 15 + 14) [.slice A' ps[k].2.length c']).cell? ⟨w.heap.size, 5, none⟩ = some (.slice (some ⟨b1, 0, none⟩) t.ns.length c) by
          obtain ⟨ms', -, -, -, hB', -, -⟩ := h
          rw [hB'.cell 5, HU0.out]
          rfl))
      generalize ps[k].2 = es at *
      generalize ms[k].ea = EA at *
      generalize ms[k].ec = EC at *
      have hlT := bT.lt
      clear hR hC bT bR hb cc hen HR3 HC3 HBT3 HBR3 HB3
      go_wp2_with fail
      have S0 : wr.drew.cell? ⟨w.heap.size, 5, none⟩ = some (.slice (some ⟨b1, 0, none⟩) t.ns.length c) := hcT
      rw [laterLd_eq 45 (.tmp 21)]
      go_region_held3 (fun W => W.cell? ⟨w.heap.size, 5, none⟩ = some (.slice (some ⟨b1, 0, none⟩) t.ns.length c)) (assumption) (first
        | (go_at_call 61; refine (KC.out _ (Below.refl _ _).drew).mono ?_; rintro e w4 ⟨A', c', rfl, hR4, hb4⟩; have ht4 := HTH.out w4 (below_then (Below.refl _ _).drew hb4); have hX4 := HNX.out _ _ _ _ (Below.refl _ _).drew hR4 hb4; have S4 : w4.cell? ⟨w.heap.size, 5, none⟩ = some (.slice (some ⟨b1, 0, none⟩) t.ns.length c) := (hb4.cell (p := ⟨w.heap.size, 5, none⟩) hlT).trans S0; have S5 := HS5.out _ _ _ hX4))
      have HX := Lib.hid hX4
      clear hX4 hR4 hb4 S0 S4 S5 ht4 HNX HS5 HTH KC c14 hcT
      go_wp2
      go_roundw
      case rel =>
        obtain ⟨ms', h1, h2, h3, h4, h5, h6⟩ := HX.out
        first
        | exact ⟨k + 1, ms', by omega, by first | rfl | go_num, h1, h2, h3, h4, h5, h6⟩
        | (repeat apply Exists.intro
           refine ⟨?_, rfl⟩
           exact ⟨k + 1, ms', by omega, by first | rfl | go_num, h1, h2, h3, h4, h5, h6⟩)
      case measure => simp [intOf]; omega
    · obtain rfl : k = t.ns.length := by omega
      have hlm : ¬ (t.ns.length : Int) < (t.ns.length : Int) := by omega
      have rT : rowOf wr w.heap.size 0 6 = some u0.vals.toArray := bT.row 0 6 (by rw [Tr.len]; omega)
      have HW := Lib.hid (bR.whole (cs := u0.vals) (by rw [Tr.len, Tr.len]))
      have HBF := Lib.hid (Below.setCells (B := w.heap.size) (b := w.heap.size + 1) (by omega) u0.vals 0 wr hb)
      have HRF := Lib.hid (show RowS (wr.setCells (w.heap.size + 1) 0 u0.vals) w.heap.size 65 15 (.slice A t.ns.length c) (ms.map Nd.vals) from
        (hR.touch (F := fun k => k = w.heap.size + 1) (Touch.setCells (F := fun k => k = w.heap.size + 1) (g := w.heap.size + 1) (.inl rfl) u0.vals 0 wr (Touch.refl _ _)) (fun k hk e => by have := (hR.lt k hk).1; omega)).base (by omega))
      have HCF := Lib.hid (show Copy (wr.setCells (w.heap.size + 1) 0 u0.vals) (fun k => k = g) ms ps from (Copy.sets hC (.inr (.inr rfl))).less (fun k h => .inl h))
      have HML := Lib.hid hml
      clear hR hC bT hb hcT hml
      have tok : True := trivial
      go_wp2_with (first | (clear tok; refine wpList_store_whole (by rfl) 26 _ _ (by rfl) (w.heap.size + 1) u0.vals trZ.vals bR (by rw [Tr.len, Tr.len]) (by rfl) (by rfl) (by kernel_rfl) (Tr.one22 _) ?_) | fail)
      refine ret_cells (w.heap.size + 1) 0 u0.vals Tryz.results24 Tryz.underlying26 rfl (by kernel_rfl) rfl HW.out.range rfl ?_
      have e : u0.vals = (⟨t.lim, t.now, t.gens, A, c, ms⟩ : Tr).vals := by
        rw [HU0.out]
        unfold Tr.vals
        simp only [HML.out]
      refine ⟨⟨t.lim, t.now, t.gens, A, c, ms⟩, g, by rw [e], rfl, rfl, rfl, HCF.out, HG.out, ?_, HBF.out⟩
      show RowS _ _ _ _ (.slice A ms.length c) _
      rw [HML.out]
      exact HRF.out
end Go.Proofs.YtgifmpobokaejaaGreatDoor
