/-
  Layer 8, walks: the document takes the entries of results. Conditions: a reader and results at blocks of their own, no entries yet.
-/
import Derived.Test.YtfjflkmhhbhceaaGreatDoorW22
import Derived.Test.YtfjflkmhhbhceaaGreatDoorW04
import Derived.Test.YtfjflkmhhbhceaaGreatDoorW23
namespace Go.Proofs.YtfjflkmhhbhceaaGreatDoor
open Go.RowKit
attribute [local go_sem ↓] Go.wp_at_zero Go.wp_at_succ
attribute [local go_sem] rowAt_ptr rowOf_drew rowOf_drewN rowOf_alloc_past rowOf_new
attribute [local go_sem ↓] ldPost ldEntry

attribute [local go_sem] Entry.at0 Entry.lat0 Entry.at1 Entry.lat1 Entry.at2 Entry.lat2 Entry.at3 Entry.lat3 Entry.at4 Entry.lat4 Entry.at5 Entry.lat5 Entry.at6 Entry.lat6 Entry.at7 Entry.lat7 Entry.at8 Entry.lat8 Entry.at9 Entry.lat9 Entry.at10 Entry.lat10 Entry.at11 Entry.lat11 Entry.at12 Entry.lat12 Entry.at13 Entry.lat13 Entry.at14 Entry.lat14 Entry.sub0_15 Entry.lsub0_15 Entry.sub3_11 Entry.lsub3_11 Entry.sub4_10 Entry.lsub4_10 Entry.len laterLd

/-- what holds while an entry is taken at block Y -/
structure InE (g b B Y : Nat) (q : Rs) (ce : List Value) (z : Reply) (rows : List (List Value)) (w W : World) : Prop where
  hg : g < B
  hb : b < B
  hne : b ≠ g
  hY : B ≤ Y
  R : RdF W g q
  E : Blk W Y 126 ce
  C : Blk W b 51 z.vals
  L : RowS W B 126 15 (.slice z.ea z.en z.ec) rows
  D : ∀ k, (Value.slice z.ea z.en z.ec).ownBlock = some k → k ≠ Y
  T : Touch (FB g b B) w W
section
variable {g b B Y : Nat} {q q' : Rs} {ce : List Value} {z : Reply} {rows : List (List Value)} {w W W' : World}
theorem InE.read (h : InE g b B Y q ce z rows w W) (hQ : ReadsF g q' W W') : InE g b B Y q' ce z rows w W' :=
  ⟨h.hg, h.hb, h.hne, h.hY, hQ.1, hQ.keeps h.E (by have := h.hg; have := h.hY; omega), hQ.keeps h.C h.hne, RowS.touch h.L hQ.2 (fun k hk hf => by have := (RowS.lt h.L k hk).1; have := h.hg; omega), h.D, h.T.then_ (hQ.2.mono fun _ _ hk => .inl hk)⟩
theorem InE.set (h : InE g b B Y q ce z rows w W) (i : Nat) (u : Value) : InE g b B Y q (ce.set i u) z rows w (W.setCell ⟨Y, i, none⟩ u) := by
  have hT : Touch (fun k => k = Y) W (W.setCell ⟨Y, i, none⟩ u) := (Touch.refl (fun k => k = Y) W).setCell_ (g := Y) (o := i) (.inl rfl) u
  have h1 := h.hg
  have h2 := h.hb
  have h3 := h.hY
  exact ⟨h.hg, h.hb, h.hne, h.hY, h.R.touch hT (by omega), h.E.set_ i u, h.C.touch hT (by omega), RowS.touch h.L hT (fun k hk hf => h.D k hk hf), h.D, h.T.then_ (hT.mono fun k _ hk => .inr (.inr (by omega)))⟩
theorem InE.sets (h : InE g b B Y q ce z rows w W) (i : Nat) (us : List Value) : InE g b B Y q (setAt ce i us) z rows w (W.setCells Y i us) := by
  have hT : Touch (fun k => k = Y) W (W.setCells Y i us) := Touch.setCells (F := fun k => k = Y) (.inl rfl) us i W (Touch.refl _ _)
  have h1 := h.hg
  have h2 := h.hb
  have h3 := h.hY
  exact ⟨h.hg, h.hb, h.hne, h.hY, h.R.touch hT (by omega), h.E.sets us _ i, h.C.touch hT (by omega), RowS.touch h.L hT (fun k hk hf => h.D k hk hf), h.D, h.T.then_ (hT.mono fun k _ hk => .inr (.inr (by omega)))⟩
/-- what is appended is stored -/
theorem InE.done (h : InE g b B Y q ce z rows w W) {A : Option Addr} {n c : Nat} {rows' : List (List Value)} (hR' : RowS W' B 126 15 (.slice A n c) rows') (hb' : Below B W W') :
    RdF (W'.setCell ⟨b, 56, none⟩ (.slice A n c)) g q ∧ Blk (W'.setCell ⟨b, 56, none⟩ (.slice A n c)) b 51 ({ z with ea := A, en := n, ec := c } : Reply).vals ∧ RowS (W'.setCell ⟨b, 56, none⟩ (.slice A n c)) B 126 15 (.slice A n c) rows' ∧ Touch (FB g b B) w (W'.setCell ⟨b, 56, none⟩ (.slice A n c)) := by
  have hT : Touch (fun k => k = b) W' (W'.setCell ⟨b, 56, none⟩ (.slice A n c)) := (Touch.refl (fun k => k = b) W').setCell_ (g := b) (o := 56) (.inl rfl) (.slice A n c)
  exact ⟨(h.R.belowB hb' h.hg).touch hT (fun e => h.hne e.symm), (h.C.below hb' h.hb).set_ 56 (.slice A n c), RowS.touch hR' hT (fun k hk hf => by have := (RowS.lt hR' k hk).1; have := h.hb; omega), (h.T.then_ (Touch.ofB hb' fun k hk => .inr (.inr hk))).then_ (hT.mono fun k _ hk => .inr (.inl hk))⟩
end
theorem fold_set8 : ∀ (cs : List Value) (k : Nat) (base : Array Value), base.size = k + cs.length → List.foldl (fun (a : Array Value) (y : Value × Nat) => a.setIfInBounds y.snd y.fst) base (cs.zipIdx k) = (base.toList.take k ++ cs).toArray
  | [], k, base, h => by
    have : base.toList.take k = base.toList := List.take_of_length_le (by simp at h ⊢; omega)
    simp [this]
  | c :: cs, k, base, h => by
    rw [List.zipIdx_cons, List.foldl_cons, fold_set8 cs (k + 1) _ (by simp at h ⊢; omega)]
    congr 1
    have hk : k < base.toList.length := by simp at h ⊢; omega
    rw [Array.toList_setIfInBounds, List.take_add_one, List.getElem?_set_self hk, List.take_set_of_le (Nat.le_refl _)]
    simp
theorem foldEntry8 (x : Entry) : List.foldl (fun (cs : Array Value) (y : Value × Nat) => cs.setIfInBounds y.snd y.fst) #[.int .i64 0, .string ⟨#[]⟩, .int .i64 0, .bool false, .int .i64 0, .int .i64 0, .int .i64 0, .int .i64 0, .int .i64 0, .int .i64 0, .int .i64 0, .int .i64 0, .int .i64 0, .int .i64 0, .string ⟨#[]⟩] x.vals.zipIdx = x.vals.toArray := by
  rw [fold_set8 x.vals 0 _ (by rw [Entry.len]; rfl)]
  rfl
attribute [local go_sem ↓] foldEntry8

end Go.Proofs.YtfjflkmhhbhceaaGreatDoor

/-
  Layer 8, walks: the document takes the entries of results, with all that they have. Conditions: a reader and results at blocks of their own, no entries yet.
-/
namespace Go.Proofs.YtfjflkmhhbhceaaGreatDoor
open Go.RowKit
end Go.Proofs.YtfjflkmhhbhceaaGreatDoor


/-
  Layer 8, walks: the document takes the field of any letter. Conditions: a reader and results at blocks of their own; no rows yet at a row's letter; machine texts.
-/
namespace Go.Proofs.YtfjflkmhhbhceaaGreatDoor
open Go.RowKit
attribute [local go_sem ↓] Go.wp_at_zero Go.wp_at_succ
attribute [local go_sem] rowAt_ptr rowOf_drew rowOf_drewN rowOf_alloc_past rowOf_new

/-- results as data, at block b, their rows in blocks from B on; none yet, if 'row' is false -/
def There8F (B b : Nat) (row : Bool) (d : RepD) (W : World) : Prop :=
  ∃ z : Reply, Blk W b 51 z.vals ∧ z.bare = d.f ∧ RowS W B 126 15 (.slice z.ea z.en z.ec) (d.es.map Entry.vals) ∧ RowS W B 3 1 (.slice z.ua z.un z.uc) (d.us.map int1) ∧
    (row = false → (z.ea = none ∧ z.en = 0 ∧ z.ec = 0) ∧ (z.ua = none ∧ z.un = 0 ∧ z.uc = 0))
end Go.Proofs.YtfjflkmhhbhceaaGreatDoor


/-
  Layer 8, walks: the document's Get of results. Condition: a text no longer than 10^18.
-/
namespace Go.Proofs.YtfjflkmhhbhceaaGreatDoor
open Go.RowKit
attribute [local go_sem ↓] Go.wp_at_zero Go.wp_at_succ
attribute [local go_sem] rowAt_ptr rowOf_drew rowOf_drewN rowOf_alloc_past rowOf_new
attribute [local go_sem ↓] ldReply

attribute [local go_sem] Reply.at0 Reply.lat0 Reply.at1 Reply.lat1 Reply.at2 Reply.lat2 Reply.at3 Reply.lat3 Reply.at4 Reply.lat4 Reply.at5 Reply.lat5 Reply.at6 Reply.lat6 Reply.at7 Reply.lat7 Reply.at8 Reply.lat8 Reply.at9 Reply.lat9 Reply.at10 Reply.lat10 Reply.at11 Reply.lat11 Reply.at12 Reply.lat12 Reply.at13 Reply.lat13 Reply.at14 Reply.lat14 Reply.at15 Reply.lat15 Reply.at16 Reply.lat16 Reply.at17 Reply.lat17 Reply.at18 Reply.lat18 Reply.at19 Reply.lat19 Reply.at20 Reply.lat20 Reply.at21 Reply.lat21 Reply.at22 Reply.lat22 Reply.at23 Reply.lat23 Reply.at24 Reply.lat24 Reply.at25 Reply.lat25 Reply.at26 Reply.lat26 Reply.at27 Reply.lat27 Reply.at28 Reply.lat28 Reply.at29 Reply.lat29 Reply.at30 Reply.lat30 Reply.at31 Reply.lat31 Reply.at32 Reply.lat32 Reply.at33 Reply.lat33 Reply.at34 Reply.lat34 Reply.at35 Reply.lat35 Reply.at36 Reply.lat36 Reply.at37 Reply.lat37 Reply.at38 Reply.lat38 Reply.at39 Reply.lat39 Reply.at40 Reply.lat40 Reply.at41 Reply.lat41 Reply.at42 Reply.lat42 Reply.at43 Reply.lat43 Reply.at44 Reply.lat44 Reply.at45 Reply.lat45 Reply.at46 Reply.lat46 Reply.at47 Reply.lat47 Reply.at48 Reply.lat48 Reply.at49 Reply.lat49 Reply.at50 Reply.lat50 Reply.at51 Reply.lat51 Reply.at52 Reply.lat52 Reply.at53 Reply.lat53 Reply.at54 Reply.lat54 Reply.at55 Reply.lat55 Reply.at56 Reply.lat56 Reply.at57 Reply.lat57 Reply.sub0_58 Reply.lsub0_58 Reply.sub2_11 Reply.lsub2_11 Reply.sub3_10 Reply.lsub3_10 Reply.sub13_11 Reply.lsub13_11 Reply.sub14_10 Reply.lsub14_10 Reply.sub24_13 Reply.lsub24_13 Reply.sub24_2 Reply.lsub24_2 Reply.sub26_11 Reply.lsub26_11 Reply.sub27_10 Reply.lsub27_10 Reply.sub37_13 Reply.lsub37_13 Reply.sub37_2 Reply.lsub37_2 Reply.sub39_11 Reply.lsub39_11 Reply.sub40_10 Reply.lsub40_10 Reply.len

theorem lettersPQ_short (fine : Bool) : ∀ s ∈ lettersPQ fine, s.length ≤ 9 := by cases fine <;> decide
theorem pFields_short (p : Int) (fine : Bool) : (pFields p fine).length ≤ 9 := by
  unfold pFields
  split
  · simp
  · rcases Nat.lt_or_ge p.toNat (lettersPQ fine).length with h | h
    · have he : (lettersPQ fine).getD p.toNat [] = (lettersPQ fine)[p.toNat] := by simp [List.getD, List.getElem?_eq_getElem h]
      rw [he]
      exact lettersPQ_short fine _ (List.getElem_mem h)
    · simp [List.getD, List.getElem?_eq_none h]
/-- what the document's Get gives -/
def GetF8 (x : Option RepD) (w : World) (e : Ending) (w' : World) : Prop :=
  (match x with
    | some d => ∃ z : Reply, e = .returned (.tuple #[.agg z.vals.toArray, .bool true]) ∧ z.bare = d.f ∧ RowS w' w.heap.size 126 15 (.slice z.ea z.en z.ec) (d.es.map Entry.vals) ∧ RowS w' w.heap.size 3 1 (.slice z.ua z.un z.uc) (d.us.map int1)
    | none => e = .returned (.tuple #[.agg replyZ.vals.toArray, .bool false])) ∧ Below w.heap.size w w'
theorem GetF8.no {x : Option RepD} {w w' : World} (h : x = none) (hB : Below w.heap.size w w') : GetF8 x w (.returned (.tuple #[.agg replyZ.vals.toArray, .bool false])) w' := by subst h; exact ⟨rfl, hB⟩
theorem There8F.stays {B b : Nat} {row : Bool} {d : RepD} {W W' : World} (h : There8F B b row d W) (hb : Below W.heap.size W W') : There8F B b row d W' := by
  obtain ⟨z, hA, hz, hE, hU, h0⟩ := h
  exact ⟨z, hA.stays hb, hz, RowS.stays hE hb, RowS.stays hU hb, h0⟩

end Go.Proofs.YtfjflkmhhbhceaaGreatDoor
