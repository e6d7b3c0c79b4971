/-
  Layer 8, walks: attributes, and what was ahead of a call and behind it, are taken into results (written by wip/tools/genposted.py). Condition: texts of Go's length.
-/
import Derived.Test.YtgifmpobokaejaaGreatDoorF19
import Derived.Test.YtgifmpobokaejaaGreatDoorF25
import Derived.Test.YtgifmpobokaejaaGreatDoorF11
import Derived.Test.YtgifmpobokaejaaGreatDoorF09
import Derived.Test.YtgifmpobokaejaaGreatDoorF26
import Derived.Test.YtgifmpobokaejaaGreatDoorF06
namespace Go.Proofs.YtgifmpobokaejaaGreatDoor
open Go.RowKit
attribute [local go_sem ↓] Go.wp_at_zero Go.wp_at_succ
attribute [local go_sem] rowAt_ptr rowOf_drew rowOf_drewN rowOf_alloc_past rowOf_new
attribute [local go_sem ↓] ldPost ldWcc

theorem Touch.wider {F G : Nat → Prop} {w w' : World} (h : Touch F w w') (hFG : ∀ k, F k → G k) : Touch G w w' := h.mono fun k _ hk => hFG k hk

end Go.Proofs.YtgifmpobokaejaaGreatDoor

/-
  Layer 8, walks: an entry is taken (written by wip/tools/genone.py). Condition: texts of Go's length.
-/
namespace Go.Proofs.YtgifmpobokaejaaGreatDoor
open Go.RowKit
attribute [local go_sem ↓] Go.wp_at_zero Go.wp_at_succ
attribute [local go_sem] rowAt_ptr rowOf_drew rowOf_drewN rowOf_alloc_past rowOf_new
attribute [local go_sem ↓] ldPost ldEntry

attribute [local go_sem] Entry.at0 Entry.lat0 Entry.at1 Entry.lat1 Entry.at2 Entry.lat2 Entry.at3 Entry.lat3 Entry.at4 Entry.lat4 Entry.at5 Entry.lat5 Entry.at6 Entry.lat6 Entry.at7 Entry.lat7 Entry.at8 Entry.lat8 Entry.at9 Entry.lat9 Entry.at10 Entry.lat10 Entry.at11 Entry.lat11 Entry.at12 Entry.lat12 Entry.at13 Entry.lat13 Entry.at14 Entry.lat14 Entry.sub0_15 Entry.lsub0_15 Entry.sub3_11 Entry.lsub3_11 Entry.sub4_10 Entry.lsub4_10 Entry.len

theorem rowOf_farQ (w : World) (b o n o' : Nat) {b' : Nat} (hn : ¬ b = b') (v : Value) : rowOf (w.setCell ⟨b', o', none⟩ v) b o n = rowOf w b o n := by
  simp only [rowOf, Below.heap_setCell w ⟨b', o', none⟩ v b hn]
def entryZ8 : Entry := ⟨0, [], 0, postZ8, []⟩
theorem rPost_len8 {r : Rs} (h : r.s.length ≤ 9223372036854775807) : (rPost r).2.s.length ≤ 9223372036854775807 := Nat.le_trans (rPost_len h) h
theorem rOpaque_len8 {n : Int} {r : Rs} (h : r.s.length ≤ 9223372036854775807) : (rOpaque n r).2.s.length ≤ r.s.length := by
  unfold rOpaque; split
  · exact rU32_len h
  · split
    · simp [Rs.fail]
    · exact Nat.le_trans (rPadded_len (Nat.le_trans (rU32_len h) h)) (rU32_len h)

end Go.Proofs.YtgifmpobokaejaaGreatDoor


/-
  Layer 8, walks: entries are taken. Condition: texts of Go's length.
-/
namespace Go.Proofs.YtgifmpobokaejaaGreatDoor
open Go.RowKit
attribute [local go_sem ↓] Go.wp_at_zero Go.wp_at_succ
attribute [local go_sem] rowAt_ptr rowOf_drew rowOf_drewN rowOf_alloc_past rowOf_new
attribute [local go_sem ↓] ldEntry

attribute [local go_sem] Entry.at0 Entry.lat0 Entry.at1 Entry.lat1 Entry.at2 Entry.lat2 Entry.at3 Entry.lat3 Entry.at4 Entry.lat4 Entry.at5 Entry.lat5 Entry.at6 Entry.lat6 Entry.at7 Entry.lat7 Entry.at8 Entry.lat8 Entry.at9 Entry.lat9 Entry.at10 Entry.lat10 Entry.at11 Entry.lat11 Entry.at12 Entry.lat12 Entry.at13 Entry.lat13 Entry.at14 Entry.lat14 Entry.sub0_15 Entry.lsub0_15 Entry.sub3_11 Entry.lsub3_11 Entry.sub4_10 Entry.lsub4_10 Entry.len

end Go.Proofs.YtgifmpobokaejaaGreatDoor


/-
  Layer 8, walks: some entries are taken. Condition: texts of Go's length.
-/
namespace Go.Proofs.YtgifmpobokaejaaGreatDoor
open Go.RowKit
attribute [local go_sem ↓] Go.wp_at_zero Go.wp_at_succ
attribute [local go_sem] rowAt_ptr rowOf_drew rowOf_drewN rowOf_alloc_past rowOf_new
attribute [local go_sem ↓] ldEntry

attribute [local go_sem] Entry.at0 Entry.lat0 Entry.at1 Entry.lat1 Entry.at2 Entry.lat2 Entry.at3 Entry.lat3 Entry.at4 Entry.lat4 Entry.at5 Entry.lat5 Entry.at6 Entry.lat6 Entry.at7 Entry.lat7 Entry.at8 Entry.lat8 Entry.at9 Entry.lat9 Entry.at10 Entry.lat10 Entry.at11 Entry.lat11 Entry.at12 Entry.lat12 Entry.at13 Entry.lat13 Entry.at14 Entry.lat14 Entry.sub0_15 Entry.lsub0_15 Entry.sub3_11 Entry.lsub3_11 Entry.sub4_10 Entry.lsub4_10 Entry.len

theorem oneA_len {r : Rs} (h : r.s.length ≤ 9223372036854775807) : (oneA r).2.s.length ≤ 9223372036854775807 := by
  have h1 := Nat.le_trans (rU64_len h) h
  have h2 := Nat.le_trans (rOpaque_len8 (n := 255) h1) h1
  exact Nat.le_trans (rU64_len h2) h2
theorem oneE_len {whole : Bool} {r : Rs} (h : r.s.length ≤ 9223372036854775807) : (oneE whole r).2.s.length ≤ 9223372036854775807 := by
  have h3 := oneA_len h
  unfold oneE
  split
  · have h4 := rPost_len8 h3
    exact Nat.le_trans (rOpaque_len8 (n := 64) h4) h4
  · exact h3
theorem entsK_len {whole : Bool} {r : Rs} (h : r.s.length ≤ 9223372036854775807) : ∀ k, (entsK whole r k).2.s.length ≤ 9223372036854775807
  | 0 => h
  | k + 1 => oneE_len (entsK_len h k)
theorem entsK_one (whole : Bool) (r : Rs) : ∀ k, (entsK whole r k).1.length = k
  | 0 => rfl
  | k + 1 => by simp [entsK, entsK_one whole r k]
def entsOk (whole : Bool) (r : Rs) : Bool := decide ((rU32 r).1 ≤ 64) && (((rU32 r).2.e == 0) && (List.range (rU32 r).1).all fun i => oneOk whole (entsK whole (rU32 r).2 i).2)

end Go.Proofs.YtgifmpobokaejaaGreatDoor


/-
  Layer 8, walks: the field of a letter is taken, but for the rows (written by wip/tools/gentaken8.py). Conditions: a reader and results at blocks of their own; machine texts.
-/
namespace Go.Proofs.YtgifmpobokaejaaGreatDoor
open Go.RowKit
attribute [local go_sem ↓] Go.wp_at_zero Go.wp_at_succ
attribute [local go_sem] rowAt_ptr rowOf_drew rowOf_drewN rowOf_alloc_past rowOf_new
attribute [local go_sem ↓] ldPost ldWcc

end Go.Proofs.YtgifmpobokaejaaGreatDoor


/-
  Layer 8, walks: the rows of results are taken (written by wip/tools/gentaken8b.py). Conditions: a reader and results at blocks of their own; machine texts.
-/
namespace Go.Proofs.YtgifmpobokaejaaGreatDoor
open Go.RowKit
attribute [local go_sem ↓] Go.wp_at_zero Go.wp_at_succ
attribute [local go_sem] rowAt_ptr rowOf_drew rowOf_drewN rowOf_alloc_past rowOf_new

theorem numsOk_e {r : Rs} (h : numsOk r = true) : (numsK (rU32 r).2 (rU32 r).1).2.e = 0 := by
  unfold numsOk at h
  simp at h
  exact h.2
theorem entsOk_e {whole : Bool} {r : Rs} (h : entsOk whole r = true) : (entsK whole (rU32 r).2 (rU32 r).1).2.e = 0 := by
  unfold entsOk at h
  simp at h
  obtain ⟨_, h0, h⟩ := h
  generalize (rU32 r).1 = n at *
  cases n with
  | zero => exact h0
  | succ n =>
    have := h n (by omega)
    unfold oneOk at this
    simp at this
    exact this.2
end Go.Proofs.YtgifmpobokaejaaGreatDoor


/-
  Layer 8, walks: the field of any letter is taken (written by wip/tools/gentaken8c.py). Conditions: a reader and results at blocks of their own; machine texts.
-/
namespace Go.Proofs.YtgifmpobokaejaaGreatDoor
open Go.RowKit
attribute [local go_sem ↓] Go.wp_at_zero Go.wp_at_succ
attribute [local go_sem] rowAt_ptr rowOf_drew rowOf_drewN rowOf_alloc_past rowOf_new

/-- results as data, at block b, their rows in blocks from B on -/
def There8 (B b : Nat) (d : RepD) (W : World) : Prop :=
  ∃ z : Reply, Blk W b 48 z.vals ∧ z.bare = d.f ∧ RowS W B 80 15 (.slice z.ea z.en z.ec) (d.es.map Entry.vals) ∧ RowS W B 3 1 (.slice z.ua z.un z.uc) (d.us.map int1)
def pLetter (c : Nat) : Prop := c = 104 ∨ c = 97 ∨ c = 68 ∨ c = 119 ∨ c = 87 ∨ c = 120 ∨ c = 99 ∨ c = 115 ∨ c = 118 ∨ c = 101 ∨ c = 100 ∨ c = 110 ∨ c = 108 ∨ c = 112
end Go.Proofs.YtgifmpobokaejaaGreatDoor


/-
  Layer 8, walks: the program's Get of results. Condition: texts of Go's length.
-/
namespace Go.Proofs.YtgifmpobokaejaaGreatDoor
open Go.RowKit
attribute [local go_sem ↓] Go.wp_at_zero Go.wp_at_succ
attribute [local go_sem] rowAt_ptr rowOf_drew rowOf_drewN rowOf_alloc_past rowOf_new
attribute [local go_sem ↓] ldReply

attribute [local go_sem] Reply.at0 Reply.lat0 Reply.at1 Reply.lat1 Reply.at2 Reply.lat2 Reply.at3 Reply.lat3 Reply.at4 Reply.lat4 Reply.at5 Reply.lat5 Reply.at6 Reply.lat6 Reply.at7 Reply.lat7 Reply.at8 Reply.lat8 Reply.at9 Reply.lat9 Reply.at10 Reply.lat10 Reply.at11 Reply.lat11 Reply.at12 Reply.lat12 Reply.at13 Reply.lat13 Reply.at14 Reply.lat14 Reply.at15 Reply.lat15 Reply.at16 Reply.lat16 Reply.at17 Reply.lat17 Reply.at18 Reply.lat18 Reply.at19 Reply.lat19 Reply.at20 Reply.lat20 Reply.at21 Reply.lat21 Reply.at22 Reply.lat22 Reply.at23 Reply.lat23 Reply.at24 Reply.lat24 Reply.at25 Reply.lat25 Reply.at26 Reply.lat26 Reply.at27 Reply.lat27 Reply.at28 Reply.lat28 Reply.at29 Reply.lat29 Reply.at30 Reply.lat30 Reply.at31 Reply.lat31 Reply.at32 Reply.lat32 Reply.at33 Reply.lat33 Reply.at34 Reply.lat34 Reply.at35 Reply.lat35 Reply.at36 Reply.lat36 Reply.at37 Reply.lat37 Reply.at38 Reply.lat38 Reply.at39 Reply.lat39 Reply.at40 Reply.lat40 Reply.at41 Reply.lat41 Reply.at42 Reply.lat42 Reply.at43 Reply.lat43 Reply.at44 Reply.lat44 Reply.at45 Reply.lat45 Reply.at46 Reply.lat46 Reply.at47 Reply.lat47 Reply.at48 Reply.lat48 Reply.at49 Reply.lat49 Reply.at50 Reply.lat50 Reply.at51 Reply.lat51 Reply.at52 Reply.lat52 Reply.at53 Reply.lat53 Reply.at54 Reply.lat54 Reply.at55 Reply.lat55 Reply.at56 Reply.lat56 Reply.at57 Reply.lat57 Reply.sub0_58 Reply.lsub0_58 Reply.sub2_11 Reply.lsub2_11 Reply.sub3_10 Reply.lsub3_10 Reply.sub13_11 Reply.lsub13_11 Reply.sub14_10 Reply.lsub14_10 Reply.sub24_13 Reply.lsub24_13 Reply.sub24_2 Reply.lsub24_2 Reply.sub26_11 Reply.lsub26_11 Reply.sub27_10 Reply.lsub27_10 Reply.sub37_13 Reply.lsub37_13 Reply.sub37_2 Reply.lsub37_2 Reply.sub39_11 Reply.lsub39_11 Reply.sub40_10 Reply.lsub40_10 Reply.len

theorem lettersPQ_ascii (fine : Bool) : ∀ s ∈ lettersPQ fine, ∀ c ∈ s, c.toNat < 128 ∧ pLetter c.toNat := by
  unfold pLetter
  cases fine <;> decide
theorem pFields_letter (p : Int) (fine : Bool) {k : Nat} (hk : k < (pFields p fine).length) : (pFields p fine)[k].toNat < 128 ∧ pLetter (pFields p fine)[k].toNat := by
  have hm : (pFields p fine)[k] ∈ pFields p fine := List.getElem_mem hk
  generalize (pFields p fine)[k] = c at *
  unfold pFields at hm
  split at hm
  · simp at hm
  · rcases Nat.lt_or_ge p.toNat (lettersPQ fine).length with h | h
    · have he : (lettersPQ fine).getD p.toNat [] = (lettersPQ fine)[p.toNat] := by simp [List.getD, List.getElem?_eq_getElem h]
      rw [he] at hm
      exact lettersPQ_ascii fine _ (List.getElem_mem h) _ hm
    · simp [List.getD, List.getElem?_eq_none h] at hm
/-- the results of bytes; none: there are none -/
def pGet (p : Int) (s : List UInt8) : Option RepD :=
  if (rU32 ⟨s, 0⟩).2.e ≠ 0 ∨ pKnown (rU32 ⟨s, 0⟩).1 = false then none
  else if (∀ k, k < (pFields p ((rU32 ⟨s, 0⟩).1 == 0)).length → pStOk (pFields p ((rU32 ⟨s, 0⟩).1 == 0)) (repS (rU32 ⟨s, 0⟩).1) (rU32 ⟨s, 0⟩).2 k = true) ∧
    rDone (pSt (pFields p ((rU32 ⟨s, 0⟩).1 == 0)) (repS (rU32 ⟨s, 0⟩).1) (rU32 ⟨s, 0⟩).2 (pFields p ((rU32 ⟨s, 0⟩).1 == 0)).length).2 = 0
  then some (pSt (pFields p ((rU32 ⟨s, 0⟩).1 == 0)) (repS (rU32 ⟨s, 0⟩).1) (rU32 ⟨s, 0⟩).2 (pFields p ((rU32 ⟨s, 0⟩).1 == 0)).length).1 else none
theorem Blk.ne_itr8 {w : World} {g b pos : Nat} {T : TypeId} {cs : List Value} {l : List UInt8} (h : Blk w g T cs) (hI : Itr w b l pos) : g ≠ b := by
  intro e
  subst e
  unfold Blk at h
  unfold Itr at hI
  rw [hI] at h
  cases h
theorem ite_of8 {α : Type} (P : α → Prop) {c : Prop} [Decidable c] {a b : α} (ha : P a) (hb : P b) : P (if c then a else b) := by split <;> assumption
theorem RowS.ne_itr {w : World} {B e sz : Nat} {v : Value} {rows : List (List Value)} {it : Nat} {l : List UInt8} {pos : Nat} (h : RowS w B e sz v rows) (hI : Itr w it l pos) (k : Nat) (hk : v.ownBlock = some k) : k ≠ it := by
  rintro rfl
  rcases h.2.2 with ⟨rfl, _⟩ | ⟨g, cap, cur, rfl, _, hh, _⟩
  · simp [Value.ownBlock] at hk
  · obtain rfl : g = k := by simpa [Value.ownBlock] using hk
    unfold Itr at hI
    rw [hI] at hh
    cases hh
theorem There8.setIter {B b it : Nat} {d : RepD} {W : World} {l : List UInt8} {pos : Nat} (h : There8 B b d W) (hI : Itr W it l pos) (p : Nat) : There8 B b d (W.setIter it l p) := by
  obtain ⟨z, hA, hz, hE, hU⟩ := h
  have hT := (Touch.refl (fun k => k = it) W).setIter (b := it) (.inl rfl) l p
  exact ⟨z, hA.farIter (hA.ne_itr8 hI) _ _, hz, RowS.touch hE hT (fun k hk hf => hE.ne_itr hI k hk hf), RowS.touch hU hT (fun k hk hf => hU.ne_itr hI k hk hf)⟩
theorem There8.stays {B b : Nat} {d : RepD} {W W' : World} (h : There8 B b d W) (hb : Below W.heap.size W W') : There8 B b d W' := by
  obtain ⟨z, hA, hz, hE, hU⟩ := h
  exact ⟨z, hA.stays hb, hz, RowS.stays hE hb, RowS.stays hU hb⟩
theorem pTk_len (c : Nat) (d : RepD) {r : Rs} (h : r.s.length ≤ 9223372036854775807) : (pTk c d r).2.s.length ≤ 9223372036854775807 := by
  have ho := fun n => Nat.le_trans (rOpaque_len8 (n := n) h) h
  have hp := rPost_len8 h
  have h4 := Nat.le_trans (rU32_len h) h
  have h8 := Nat.le_trans (rU64_len h) h
  have hb := Nat.le_trans (rBool_len h) h
  have hw : (rWcc r).2.s.length ≤ 9223372036854775807 := rPost_len8 (Nat.le_trans (rOpt_len h) h)
  have hn := numsK_len h4 (rU32 r).1
  have he := fun b => entsK_len (whole := b) h4 (rU32 r).1
  unfold pTk
  exact (ite_of8 (fun x : RepD × Rs => x.2.s.length ≤ 9223372036854775807) (ho _) (ite_of8 (fun x : RepD × Rs => x.2.s.length ≤ 9223372036854775807) hp (ite_of8 (fun x : RepD × Rs => x.2.s.length ≤ 9223372036854775807) hp (ite_of8 (fun x : RepD × Rs => x.2.s.length ≤ 9223372036854775807) hw (ite_of8 (fun x : RepD × Rs => x.2.s.length ≤ 9223372036854775807) hw (ite_of8 (fun x : RepD × Rs => x.2.s.length ≤ 9223372036854775807) h4 (ite_of8 (fun x : RepD × Rs => x.2.s.length ≤ 9223372036854775807) h4 (ite_of8 (fun x : RepD × Rs => x.2.s.length ≤ 9223372036854775807) h4 (ite_of8 (fun x : RepD × Rs => x.2.s.length ≤ 9223372036854775807) h8 (ite_of8 (fun x : RepD × Rs => x.2.s.length ≤ 9223372036854775807) hb (ite_of8 (fun x : RepD × Rs => x.2.s.length ≤ 9223372036854775807) (ho _) (ite_of8 (fun x : RepD × Rs => x.2.s.length ≤ 9223372036854775807) hn (ite_of8 (fun x : RepD × Rs => x.2.s.length ≤ 9223372036854775807) (he _) (ite_of8 (fun x : RepD × Rs => x.2.s.length ≤ 9223372036854775807) (he _) h))))))))))))))
theorem pSt_len (l : List UInt8) (d : RepD) {r : Rs} (h : r.s.length ≤ 9223372036854775807) (k : Nat) (hk : k ≤ l.length) : (pSt l d r k).2.s.length ≤ 9223372036854775807 := by
  induction k with
  | zero => exact h
  | succ k ih => rw [pSt_succ _ _ _ _ (by omega)]; exact pTk_len _ _ (ih (by omega))
/-- what Get gives -/
def GetP8 (x : Option RepD) (w : World) (e : Ending) (w' : World) : Prop :=
  (match x with
    | some d => ∃ z : Reply, e = .returned (.tuple #[.agg z.vals.toArray, .int .i64 0]) ∧ z.bare = d.f ∧ RowS w' w.heap.size 80 15 (.slice z.ea z.en z.ec) (d.es.map Entry.vals) ∧ RowS w' w.heap.size 3 1 (.slice z.ua z.un z.uc) (d.us.map int1)
    | none => e = .returned (.tuple #[.agg replyZ.vals.toArray, .int .i64 14])) ∧ Below w.heap.size w w'
theorem GetP8.no {x : Option RepD} {w w' : World} (h : x = none) (hB : Below w.heap.size w w') : GetP8 x w (.returned (.tuple #[.agg replyZ.vals.toArray, .int .i64 14])) w' := by subst h; exact ⟨rfl, hB⟩

end Go.Proofs.YtgifmpobokaejaaGreatDoor


/-
  Layer 8 in plain words: what is taken of results, laid once more, is the bytes. Condition: a machine text.
-/
namespace Go.Proofs.YtgifmpobokaejaaGreatDoor
open Go.RowKit

theorem gotR_zero8 {α : Type} {ok : α → Bool} {n : α} {x : α × Rs} (h : ((gotR ok n x).2 == 0) = true) : x.2.e = 0 ∧ ok x.1 = true ∧ (gotR ok n x).1 = x.1 := by
  unfold gotR at *
  by_cases h1 : x.2.e ≠ 0
  · rw [if_pos h1] at h; exact absurd (by simpa using h) h1
  · rw [if_neg h1] at *
    by_cases h2 : ok x.1 = true
    · rw [if_pos h2]; exact ⟨by simpa using h1, h2, rfl⟩
    · rw [if_neg h2] at h; simp at h
theorem attr_manyB8 (t m k u g s i n c z : Nat) : (Attr.mk t m k u g s i n c z).bytes = manyB attrW [t, m, k, u, g, s, i, n, c, z] := by
  simp only [Attr.bytes, attrW, manyB, wid_t, wid_f, Int.toNat_natCast, List.append_assoc, List.append_nil]
theorem rAttr_same8 {r : Rs} (h0 : r.e = 0) (h : (rAttr r).2.e = 0) : r.s = (rAttr r).1.bytes ++ (rAttr r).2.s := by
  have e1 := rMany_same attrW h0 h
  have hl := rMany_length attrW r
  unfold rAttr
  generalize rMany attrW r = x at *
  obtain ⟨l, q⟩ := x
  simp only at *
  match l, hl with
  | [t, m, k, u, g, s, i, n, c, z], _ =>
    show r.s = (Attr.mk t m k u g s i n c z).bytes ++ q.s
    rw [attr_manyB8]; exact e1
theorem rAttr_stick8 {r : Rs} (h : r.e ≠ 0) : (rAttr r).2 = r := by
  show (rMany attrW r).2 = r
  exact rMany_stick _ h
theorem rPost_stick8 {r : Rs} (h : r.e ≠ 0) : (rPost r).2 = r := by
  unfold rPost
  rw [rBool_stick h]
  simp
theorem rPost_same8 {r : Rs} (h0 : r.e = 0) (h : (rPost r).2.e = 0) : r.s = (rPost r).1.bytes ++ (rPost r).2.s := by
  have hb : (rBool r).2.e = 0 := by
    apply Classical.byContradiction
    intro hc
    unfold rPost at h
    split at h
    · rw [rAttr_stick8 hc] at h; exact hc h
    · exact hc h
  have e1 := rBool_same h0 hb
  unfold rPost at *
  cases hi : (rBool r).1
  · rw [hi] at e1
    rw [if_neg (by simp)]
    exact e1
  · rw [hi] at e1 h
    rw [if_pos rfl] at h ⊢
    have e2 := rAttr_same8 hb h
    show r.s = truth true ++ (rAttr (rBool r).2).1.bytes ++ (rAttr (rBool r).2).2.s
    rw [List.append_assoc, ← e2]
    exact e1
theorem rWcc_same8 {r : Rs} (h0 : r.e = 0) (h : (rWcc r).2.e = 0) : r.s = (rWcc r).1.bytes ++ (rWcc r).2.s := by
  have hb : (rOpt r).2.e = 0 := by
    apply Classical.byContradiction
    intro hc
    unfold rWcc at h
    rw [rPost_stick8 hc] at h
    exact hc h
  have e1 := (rOpt_same h0 hb).1
  have e2 := rPost_same8 hb h
  show r.s = optB (rOpt r).1.1 ((rOpt r).1.2 : Int) ++ (rPost (rOpt r).2).1.bytes ++ (rPost (rOpt r).2).2.s
  rw [List.append_assoc, ← e2]
  exact e1

/-- an entry's bytes -/
def entB (whole : Bool) (x : Entry) : List UInt8 := num x.gen.toNat 8 ++ opq x.name ++ num x.cookie.toNat 8 ++ (if whole then x.attr.bytes ++ opq x.fh else [])
def numB (n : Int) : List UInt8 := num n.toNat 8
/-- the bytes of a letter's field -/
def rB8 (d : RepD) (c : Nat) : List UInt8 :=
  if c = 104 then opq d.f.fh
  else if c = 97 then d.f.obj.bytes
  else if c = 68 then d.f.dir.bytes
  else if c = 119 then d.f.wcc.bytes
  else if c = 87 then d.f.wcc2.bytes
  else if c = 120 then num d.f.access.toNat 4
  else if c = 99 then num d.f.count.toNat 4
  else if c = 115 then num d.f.stable.toNat 4
  else if c = 118 then num d.f.verf.toNat 8
  else if c = 101 then truth d.f.eof
  else if c = 100 then opq d.f.data
  else if c = 110 then num d.us.length 4 ++ d.us.flatMap numB
  else if c = 108 then num d.es.length 4 ++ d.es.flatMap (entB false)
  else if c = 112 then num d.es.length 4 ++ d.es.flatMap (entB true)
  else []
def numM (n : Int) : Prop := 0 ≤ n ∧ n ≤ 9223372036854775807
def entM (whole : Bool) (x : Entry) : Prop := numM x.gen ∧ x.name.length ≤ 255 ∧ numM x.cookie ∧ (whole = true → x.attr.ok = true ∧ x.attr.good ∧ x.fh.length ≤ 64)
/-- what the bytes of a letter's field ask -/
def rM8 (d : RepD) (c : Nat) : Prop :=
  if c = 104 then d.f.fh.length ≤ 64
  else if c = 97 then d.f.obj.ok = true ∧ d.f.obj.good
  else if c = 68 then d.f.dir.ok = true ∧ d.f.dir.good
  else if c = 119 then d.f.wcc.ok = true ∧ d.f.wcc.good
  else if c = 87 then d.f.wcc2.ok = true ∧ d.f.wcc2.good
  else if c = 120 then numM d.f.access
  else if c = 99 then numM d.f.count
  else if c = 115 then numM d.f.stable
  else if c = 118 then numM d.f.verf
  else if c = 101 then True
  else if c = 100 then d.f.data.length ≤ 256
  else if c = 110 then d.us.length ≤ 16 ∧ ∀ n ∈ d.us, numM n
  else if c = 108 then d.es.length ≤ 64 ∧ ∀ x ∈ d.es, entM false x
  else if c = 112 then d.es.length ≤ 64 ∧ ∀ x ∈ d.es, entM true x
  else True
theorem numsK_same {r : Rs} (h0 : r.e = 0) : ∀ k, (numsK r k).2.e = 0 → r.s = (numsK r k).1.flatMap numB ++ (numsK r k).2.s ∧ (numsK r k).1.length = k ∧ ∀ n ∈ (numsK r k).1, numM n
  | 0, _ => ⟨rfl, rfl, fun n hn => absurd hn (by simp [numsK])⟩
  | k + 1, h => by
    have hs : (numsK r (k + 1)).2 = (rU64 (numsK r k).2).2 := rfl
    have hv : (numsK r (k + 1)).1 = (numsK r k).1 ++ [((rU64 (numsK r k).2).1 : Int)] := rfl
    rw [hs] at h
    have he : (numsK r k).2.e = 0 := by
      apply Classical.byContradiction
      intro hc
      rw [rU64_stick hc] at h
      exact hc h
    obtain ⟨e1, e2, e3⟩ := numsK_same h0 k he
    obtain ⟨f1, f2⟩ := rU64_same he h
    rw [hs, hv]
    refine ⟨?_, by simp [e2], fun n hn => ?_⟩
    · rw [List.flatMap_append, List.append_assoc]
      show r.s = (numsK r k).1.flatMap numB ++ (([((rU64 (numsK r k).2).1 : Int)].flatMap numB) ++ (rU64 (numsK r k).2).2.s)
      have : [((rU64 (numsK r k).2).1 : Int)].flatMap numB = num (rU64 (numsK r k).2).1 8 := by simp [numB]
      rw [this, ← f1]
      exact e1
    · rcases List.mem_append.1 hn with hn | hn
      · exact e3 n hn
      · simp only [List.mem_cons, List.not_mem_nil, or_false] at hn
        subst hn
        exact ⟨by omega, by omega⟩
theorem oneA_same {r : Rs} (h0 : r.e = 0) (h : (oneA r).2.e = 0) : r.s = entB false (oneA r).1 ++ (oneA r).2.s ∧ entM false (oneA r).1 := by
  have h' : (rU64 (rOpaque 255 (rU64 r).2).2).2.e = 0 := h
  have h2 : (rOpaque 255 (rU64 r).2).2.e = 0 := by
    apply Classical.byContradiction
    intro hc
    rw [rU64_stick hc] at h'
    exact hc h'
  have h1 : (rU64 r).2.e = 0 := by
    apply Classical.byContradiction
    intro hc
    rw [rOpaque_stick hc] at h2
    exact hc h2
  obtain ⟨e1, e2⟩ := rU64_same h0 h1
  obtain ⟨f1, f2⟩ := rOpaque_same (most := 255) h1 h2
  obtain ⟨g1, g2⟩ := rU64_same h2 h'
  refine ⟨?_, ⟨⟨?_, ?_⟩, ?_, ⟨?_, ?_⟩, fun h => absurd h (by simp)⟩⟩
  · show r.s = num ((rU64 r).1 : Int).toNat 8 ++ opq (rOpaque 255 (rU64 r).2).1 ++ num ((rU64 (rOpaque 255 (rU64 r).2).2).1 : Int).toNat 8 ++ [] ++ (rU64 (rOpaque 255 (rU64 r).2).2).2.s
    rw [Int.toNat_natCast, Int.toNat_natCast, List.append_nil, List.append_assoc, ← g1, List.append_assoc, ← f1]
    exact e1
  · show (0 : Int) ≤ ((rU64 r).1 : Int); omega
  · show ((rU64 r).1 : Int) ≤ 9223372036854775807; omega
  · show (rOpaque 255 (rU64 r).2).1.length ≤ 255; omega
  · show (0 : Int) ≤ ((rU64 (rOpaque 255 (rU64 r).2).2).1 : Int); omega
  · show ((rU64 (rOpaque 255 (rU64 r).2).2).1 : Int) ≤ 9223372036854775807; omega
theorem oneE_same {whole : Bool} {r : Rs} (h0 : r.e = 0) (hl : r.s.length ≤ 9223372036854775807) (h : oneOk whole r = true) : r.s = entB whole (oneE whole r).1 ++ (oneE whole r).2.s ∧ entM whole (oneE whole r).1 ∧ (oneE whole r).2.e = 0 := by
  have hlA := oneA_len hl
  unfold oneOk at h
  rw [Bool.and_eq_true] at h
  obtain ⟨h1, h2⟩ := h
  have h2 : (oneE whole r).2.e = 0 := eq_of_beq h2
  cases whole
  · obtain ⟨e1, e2⟩ := oneA_same h0 h2
    exact ⟨e1, e2, h2⟩
  · obtain ⟨p1, p2, p3⟩ := gotR_zero8 (x := rPost (oneA r).2) h1
    have hA : (oneA r).2.e = 0 := by
      apply Classical.byContradiction
      intro hc
      rw [rPost_stick8 hc] at p1
      exact hc p1
    obtain ⟨e1, e2, e3, e4, _⟩ := oneA_same h0 hA
    have f1 := rPost_same8 hA p1
    have h2' : (rOpaque 64 (rPost (oneA r).2).2).2.e = 0 := h2
    obtain ⟨g1, g2⟩ := rOpaque_same (most := 64) p1 h2'
    have hv : oneE true r = ({ (oneA r).1 with attr := (gotR Post.ok postZ (rPost (oneA r).2)).1, fh := (rOpaque 64 (rPost (oneA r).2).2).1 }, (rOpaque 64 (rPost (oneA r).2).2).2) := rfl
    rw [hv, p3]
    refine ⟨?_, ⟨e2, e3, e4, fun _ => ⟨p2, rPost_good hlA, ?_⟩⟩, h2'⟩
    · show r.s = num (oneA r).1.gen.toNat 8 ++ opq (oneA r).1.name ++ num (oneA r).1.cookie.toNat 8 ++ ((rPost (oneA r).2).1.bytes ++ opq (rOpaque 64 (rPost (oneA r).2).2).1) ++ (rOpaque 64 (rPost (oneA r).2).2).2.s
      have e1' : r.s = num (oneA r).1.gen.toNat 8 ++ opq (oneA r).1.name ++ num (oneA r).1.cookie.toNat 8 ++ [] ++ (oneA r).2.s := e1
      rw [List.append_nil] at e1'
      rw [List.append_assoc _ _ (rOpaque 64 (rPost (oneA r).2).2).2.s, List.append_assoc _ _ (rOpaque 64 (rPost (oneA r).2).2).2.s, ← g1, ← f1]
      exact e1'
    · show (rOpaque 64 (rPost (oneA r).2).2).1.length ≤ 64
      omega
theorem entsK_same {whole : Bool} {r : Rs} (h0 : r.e = 0) (hl : r.s.length ≤ 9223372036854775807) : ∀ k, (∀ i, i < k → oneOk whole (entsK whole r i).2 = true) → r.s = (entsK whole r k).1.flatMap (entB whole) ++ (entsK whole r k).2.s ∧ (∀ x ∈ (entsK whole r k).1, entM whole x) ∧ (entsK whole r k).2.e = 0
  | 0, _ => ⟨rfl, fun n hn => absurd hn (by simp [entsK]), h0⟩
  | k + 1, h => by
    obtain ⟨e1, e2, e3⟩ := entsK_same h0 hl k fun i hi => h i (by omega)
    obtain ⟨f1, f2, f3⟩ := oneE_same e3 (entsK_len hl k) (h k (by omega))
    have hs : (entsK whole r (k + 1)).2 = (oneE whole (entsK whole r k).2).2 := rfl
    have hv : (entsK whole r (k + 1)).1 = (entsK whole r k).1 ++ [(oneE whole (entsK whole r k).2).1] := rfl
    rw [hs, hv]
    refine ⟨?_, fun x hx => ?_, f3⟩
    · rw [List.flatMap_append, List.append_assoc, List.flatMap_singleton, ← f1]
      exact e1
    · rcases List.mem_append.1 hx with hx | hx
      · exact e2 x hx
      · simp only [List.mem_cons, List.not_mem_nil, or_false] at hx
        subst hx
        exact f2
theorem natLe8 {n : Nat} (h : n < 4294967296) : numM (n : Int) := ⟨by omega, by omega⟩
theorem natLe8' {n : Nat} (h : n < 9223372036854775808) : numM (n : Int) := ⟨by omega, by omega⟩
theorem pTk_same (c : Nat) (hc : pLetter c) (d : RepD) {r : Rs} (h0 : r.e = 0) (hl : r.s.length ≤ 9223372036854775807) (hk : pTkOk c r = true) :
    r.s = rB8 (pTk c d r).1 c ++ (pTk c d r).2.s ∧ (pTk c d r).2.e = 0 ∧ rM8 (pTk c d r).1 c := by
  have hd : ∀ n : Nat, ((n : Int)).toNat = n := fun n => Int.toNat_natCast n
  have hl4 := Nat.le_trans (rU32_len hl) hl
  rcases hc with rfl | rfl | rfl | rfl | rfl | rfl | rfl | rfl | rfl | rfl | rfl | rfl | rfl | rfl
  · have h : (rOpaque 64 r).2.e = 0 := eq_of_beq hk
    obtain ⟨e1, e2⟩ := rOpaque_same (most := 64) h0 h
    exact ⟨e1, h, show (rOpaque 64 r).1.length ≤ 64 by omega⟩
  · obtain ⟨p1, p2, p3⟩ := gotR_zero8 (x := rPost r) hk
    have e1 := rPost_same8 h0 p1
    refine ⟨?_, p1, ?_⟩
    · show r.s = (gotR Post.ok postZ (rPost r)).1.bytes ++ (rPost r).2.s
      rw [p3]; exact e1
    · show (gotR Post.ok postZ (rPost r)).1.ok = true ∧ (gotR Post.ok postZ (rPost r)).1.good
      rw [p3]; exact ⟨p2, rPost_good hl⟩
  · obtain ⟨p1, p2, p3⟩ := gotR_zero8 (x := rPost r) hk
    have e1 := rPost_same8 h0 p1
    refine ⟨?_, p1, ?_⟩
    · show r.s = (gotR Post.ok postZ (rPost r)).1.bytes ++ (rPost r).2.s
      rw [p3]; exact e1
    · show (gotR Post.ok postZ (rPost r)).1.ok = true ∧ (gotR Post.ok postZ (rPost r)).1.good
      rw [p3]; exact ⟨p2, rPost_good hl⟩
  · obtain ⟨p1, p2, p3⟩ := gotR_zero8 (x := rWcc r) hk
    have e1 := rWcc_same8 h0 p1
    refine ⟨?_, p1, ?_⟩
    · show r.s = (gotR Wcc.ok wccZ (rWcc r)).1.bytes ++ (rWcc r).2.s
      rw [p3]; exact e1
    · show (gotR Wcc.ok wccZ (rWcc r)).1.ok = true ∧ (gotR Wcc.ok wccZ (rWcc r)).1.good
      rw [p3]; exact ⟨p2, rWcc_good hl⟩
  · obtain ⟨p1, p2, p3⟩ := gotR_zero8 (x := rWcc r) hk
    have e1 := rWcc_same8 h0 p1
    refine ⟨?_, p1, ?_⟩
    · show r.s = (gotR Wcc.ok wccZ (rWcc r)).1.bytes ++ (rWcc r).2.s
      rw [p3]; exact e1
    · show (gotR Wcc.ok wccZ (rWcc r)).1.ok = true ∧ (gotR Wcc.ok wccZ (rWcc r)).1.good
      rw [p3]; exact ⟨p2, rWcc_good hl⟩
  · have h : (rU32 r).2.e = 0 := eq_of_beq hk
    obtain ⟨e1, e2⟩ := rU32_same h0 h
    exact ⟨(congrArg (fun n => num n 4 ++ (rU32 r).2.s) (hd _)).symm ▸ e1, h, natLe8 e2⟩
  · have h : (rU32 r).2.e = 0 := eq_of_beq hk
    obtain ⟨e1, e2⟩ := rU32_same h0 h
    exact ⟨(congrArg (fun n => num n 4 ++ (rU32 r).2.s) (hd _)).symm ▸ e1, h, natLe8 e2⟩
  · have h : (rU32 r).2.e = 0 := eq_of_beq hk
    obtain ⟨e1, e2⟩ := rU32_same h0 h
    exact ⟨(congrArg (fun n => num n 4 ++ (rU32 r).2.s) (hd _)).symm ▸ e1, h, natLe8 e2⟩
  · have h : (rU64 r).2.e = 0 := eq_of_beq hk
    obtain ⟨e1, e2⟩ := rU64_same h0 h
    exact ⟨(congrArg (fun n => num n 8 ++ (rU64 r).2.s) (hd _)).symm ▸ e1, h, natLe8' e2⟩
  · have h : (rBool r).2.e = 0 := eq_of_beq hk
    exact ⟨rBool_same h0 h, h, trivial⟩
  · have h : (rOpaque 256 r).2.e = 0 := eq_of_beq hk
    obtain ⟨e1, e2⟩ := rOpaque_same (most := 256) h0 h
    exact ⟨e1, h, show (rOpaque 256 r).1.length ≤ 256 by omega⟩
  · have hk' : (decide ((rU32 r).1 ≤ 16) && ((numsK (rU32 r).2 (rU32 r).1).2.e == 0)) = true := hk
    rw [Bool.and_eq_true] at hk'
    obtain ⟨h1, h2⟩ := hk'
    have h1 : (rU32 r).1 ≤ 16 := of_decide_eq_true h1
    have h2 : (numsK (rU32 r).2 (rU32 r).1).2.e = 0 := eq_of_beq h2
    have h3 : (rU32 r).2.e = 0 := by
      apply Classical.byContradiction
      intro hc
      have : ∀ k, (numsK (rU32 r).2 k).2 = (rU32 r).2 := fun k => by
        induction k with
        | zero => rfl
        | succ k ih => show (rU64 (numsK (rU32 r).2 k).2).2 = _; rw [ih, rU64_stick hc]
      rw [this] at h2
      exact hc h2
    obtain ⟨e1, e2⟩ := rU32_same h0 h3
    obtain ⟨f1, f2, f3⟩ := numsK_same h3 _ h2
    refine ⟨?_, h2, ?_⟩
    · show r.s = num (numsK (rU32 r).2 (rU32 r).1).1.length 4 ++ (numsK (rU32 r).2 (rU32 r).1).1.flatMap numB ++ (numsK (rU32 r).2 (rU32 r).1).2.s
      rw [f2, List.append_assoc, ← f1]; exact e1
    · show (numsK (rU32 r).2 (rU32 r).1).1.length ≤ 16 ∧ ∀ n ∈ (numsK (rU32 r).2 (rU32 r).1).1, numM n
      exact ⟨by omega, f3⟩
  · have hk' : (decide ((rU32 r).1 ≤ 64) && (((rU32 r).2.e == 0) && (List.range (rU32 r).1).all fun i => oneOk false (entsK false (rU32 r).2 i).2)) = true := hk
    rw [Bool.and_eq_true, Bool.and_eq_true] at hk'
    obtain ⟨h1, h2, h3⟩ := hk'
    have h1 : (rU32 r).1 ≤ 64 := of_decide_eq_true h1
    have h2 : (rU32 r).2.e = 0 := eq_of_beq h2
    obtain ⟨e1, e2⟩ := rU32_same h0 h2
    obtain ⟨f1, f2, f3⟩ := entsK_same (whole := false) h2 hl4 (rU32 r).1 fun i hi => List.all_eq_true.1 h3 i (by simpa using hi)
    have f4 := entsK_one false (rU32 r).2 (rU32 r).1
    refine ⟨?_, f3, ?_⟩
    · show r.s = num (entsK false (rU32 r).2 (rU32 r).1).1.length 4 ++ (entsK false (rU32 r).2 (rU32 r).1).1.flatMap (entB false) ++ (entsK false (rU32 r).2 (rU32 r).1).2.s
      rw [f4, List.append_assoc, ← f1]; exact e1
    · show (entsK false (rU32 r).2 (rU32 r).1).1.length ≤ 64 ∧ ∀ n ∈ (entsK false (rU32 r).2 (rU32 r).1).1, entM false n
      exact ⟨by omega, f2⟩
  · have hk' : (decide ((rU32 r).1 ≤ 64) && (((rU32 r).2.e == 0) && (List.range (rU32 r).1).all fun i => oneOk true (entsK true (rU32 r).2 i).2)) = true := hk
    rw [Bool.and_eq_true, Bool.and_eq_true] at hk'
    obtain ⟨h1, h2, h3⟩ := hk'
    have h1 : (rU32 r).1 ≤ 64 := of_decide_eq_true h1
    have h2 : (rU32 r).2.e = 0 := eq_of_beq h2
    obtain ⟨e1, e2⟩ := rU32_same h0 h2
    obtain ⟨f1, f2, f3⟩ := entsK_same (whole := true) h2 hl4 (rU32 r).1 fun i hi => List.all_eq_true.1 h3 i (by simpa using hi)
    have f4 := entsK_one true (rU32 r).2 (rU32 r).1
    refine ⟨?_, f3, ?_⟩
    · show r.s = num (entsK true (rU32 r).2 (rU32 r).1).1.length 4 ++ (entsK true (rU32 r).2 (rU32 r).1).1.flatMap (entB true) ++ (entsK true (rU32 r).2 (rU32 r).1).2.s
      rw [f4, List.append_assoc, ← f1]; exact e1
    · show (entsK true (rU32 r).2 (rU32 r).1).1.length ≤ 64 ∧ ∀ n ∈ (entsK true (rU32 r).2 (rU32 r).1).1, entM true n
      exact ⟨by omega, f2⟩
def slot8 (c : Nat) : Nat := if c = 112 then 108 else c
set_option maxHeartbeats 4000000 in
theorem pTk_other (c e : Nat) (hc : pLetter c) (he : pLetter e) (hne : slot8 c ≠ slot8 e) (d : RepD) (r : Rs) : rB8 (pTk c d r).1 e = rB8 d e ∧ rM8 (pTk c d r).1 e = rM8 d e := by
  rcases hc with rfl | rfl | rfl | rfl | rfl | rfl | rfl | rfl | rfl | rfl | rfl | rfl | rfl | rfl <;>
  rcases he with rfl | rfl | rfl | rfl | rfl | rfl | rfl | rfl | rfl | rfl | rfl | rfl | rfl | rfl <;>
  first | exact absurd rfl hne | exact ⟨rfl, rfl⟩
theorem pTk_status (c : Nat) (hc : pLetter c) (d : RepD) (r : Rs) : (pTk c d r).1.f.status = d.f.status := by
  rcases hc with rfl | rfl | rfl | rfl | rfl | rfl | rfl | rfl | rfl | rfl | rfl | rfl | rfl | rfl <;> rfl
/-- the bytes of the first k letters -/
def pLaid (d : RepD) (l : List UInt8) (k : Nat) : List UInt8 := (l.take k).flatMap fun c => rB8 d c.toNat
theorem pLaid_succ (d : RepD) (l : List UInt8) (k : Nat) (hk : k < l.length) : pLaid d l (k + 1) = pLaid d l k ++ rB8 d l[k].toNat := by
  unfold pLaid
  rw [List.take_add_one, List.getElem?_eq_getElem hk, List.flatMap_append]
  simp
theorem pLaid_congr {x y : RepD} {l : List UInt8} {k : Nat} (h : ∀ c ∈ l.take k, rB8 x c.toNat = rB8 y c.toNat) : pLaid x l k = pLaid y l k := by
  unfold pLaid
  generalize l.take k = m at *
  induction m with
  | nil => rfl
  | cons a m ih => rw [List.flatMap_cons, List.flatMap_cons, h a (by simp), ih (fun c hc => h c (by simp [hc]))]
theorem pSt_same (l : List UInt8) (hl : ∀ k (hk : k < l.length), pLetter l[k].toNat) (hn : (l.map fun c => slot8 c.toNat).Nodup) (d : RepD) (r : Rs) (h0 : r.e = 0) (hr : r.s.length ≤ 9223372036854775807) (hok : ∀ k, k < l.length → pStOk l d r k = true) (k : Nat) (hk : k ≤ l.length) :
    r.s = pLaid (pSt l d r k).1 l k ++ (pSt l d r k).2.s ∧ (pSt l d r k).2.e = 0 ∧ (pSt l d r k).1.f.status = d.f.status ∧ ∀ j (hj : j < k), rM8 (pSt l d r k).1 (l[j]'(by omega)).toNat := by
  induction k with
  | zero => exact ⟨rfl, h0, rfl, fun j hj => absurd hj (by omega)⟩
  | succ k ih =>
    have hk' : k < l.length := hk
    obtain ⟨e1, e2, e4, e3⟩ := ih (by omega)
    have ho := hok k hk'
    have ho : pTkOk l[k].toNat (pSt l d r k).2 = true := by
      unfold pStOk at ho
      simpa [List.getD, List.getElem?_eq_getElem hk'] using ho
    obtain ⟨f1, f2, f3⟩ := pTk_same _ (hl k hk') (pSt l d r k).1 e2 (pSt_len l d hr k (by omega)) ho
    have f4 := pTk_status _ (hl k hk') (pSt l d r k).1 (pSt l d r k).2
    rw [pSt_succ _ _ _ _ hk']
    have hoth : ∀ j (hj : j < k), _ := fun j hj => pTk_other l[k].toNat (l[j]'(by omega)).toNat (hl k hk') (hl j (by omega)) (fun h => by
      have := (List.pairwise_iff_getElem.1 hn) j k (by rw [List.length_map]; omega) (by rw [List.length_map]; omega) hj
      rw [List.getElem_map, List.getElem_map] at this
      exact this h.symm) (pSt l d r k).1 (pSt l d r k).2
    generalize pTk l[k].toNat (pSt l d r k).1 (pSt l d r k).2 = y at *
    refine ⟨?_, f2, f4.trans e4, ?_⟩
    · rw [pLaid_succ _ _ _ hk', List.append_assoc, ← f1, pLaid_congr (y := (pSt l d r k).1)]
      · exact e1
      · intro c hc
        obtain ⟨j, hj, rfl⟩ := List.getElem_of_mem hc
        have hj2 : j < k := by rw [List.length_take] at hj; omega
        rw [List.getElem_take]
        exact (hoth j hj2).1
    · intro j hj
      by_cases hjk : j = k
      · subst hjk; exact f3
      · rw [(hoth j (by omega)).2]; exact e3 j (by omega)
theorem lettersPQ_nodup (fine : Bool) : ∀ s ∈ lettersPQ fine, (s.map fun c => slot8 c.toNat).Nodup := by cases fine <;> decide
theorem pFields_nodup (p : Int) (fine : Bool) : ((pFields p fine).map fun c => slot8 c.toNat).Nodup := by
  unfold pFields
  split
  · exact List.nodup_nil
  · rcases Nat.lt_or_ge p.toNat (lettersPQ fine).length with h | h
    · have he : (lettersPQ fine).getD p.toNat [] = (lettersPQ fine)[p.toNat] := by simp [List.getD, List.getElem?_eq_getElem h]
      rw [he]
      exact lettersPQ_nodup fine _ (List.getElem_mem h)
    · simp [List.getD, List.getElem?_eq_none h]
/-- what is taken, laid once more, is the bytes -/
theorem pGet_same (p : Int) (s : List UInt8) (hs : s.length ≤ 9223372036854775807) (d : RepD) (h : pGet p s = some d) :
    s = num d.f.status.toNat 4 ++ pLaid d (pFields p (d.f.status == 0)) (pFields p (d.f.status == 0)).length ∧ 0 ≤ d.f.status ∧ d.f.status ≤ 4294967295 ∧ ∀ j (hj : j < (pFields p (d.f.status == 0)).length), rM8 d ((pFields p (d.f.status == 0))[j]'hj).toNat := by
  have hl4 := Nat.le_trans (rU32_len (r := ⟨s, 0⟩) hs) hs
  have hsame := fun h => rU32_same (r := ⟨s, 0⟩) rfl h
  unfold pGet at h
  generalize rU32 ⟨s, 0⟩ = y at *
  obtain ⟨n, q⟩ := y
  simp only at *
  split at h
  · cases h
  · next h1 =>
    split at h
    · next h2 =>
      have hq : q.e = 0 := by simp at h1; exact h1.1
      obtain ⟨e1, e2⟩ := hsame hq
      obtain ⟨f1, f2, f4, f3⟩ := pSt_same _ (fun k hk => (pFields_letter p _ hk).2) (pFields_nodup p _) (repS n) q hq hl4 h2.1 _ (Nat.le_refl _)
      obtain ⟨g1, g2⟩ := rDone_zero h2.2
      have hd := Option.some.inj h
      rw [hd] at f1 f3 f4
      rw [g2, List.append_nil] at f1
      have hst : d.f.status = (n : Int) := f4
      have hbe : (d.f.status == 0) = (n == 0) := by rw [hst, Bool.eq_iff_iff]; simp
      rw [hbe, hst, Int.toNat_natCast, ← f1]
      exact ⟨e1, by omega, by omega, f3⟩
    · cases h
end Go.Proofs.YtgifmpobokaejaaGreatDoor


/-
  Layer 8, walks: the document takes the field of a letter, but for the rows (written by wip/tools/gentakef8.py). Conditions: a reader and results at blocks of their own.
-/
namespace Go.Proofs.YtgifmpobokaejaaGreatDoor
open Go.RowKit
attribute [local go_sem ↓] Go.wp_at_zero Go.wp_at_succ
attribute [local go_sem] rowAt_ptr rowOf_drew rowOf_drewN rowOf_alloc_past rowOf_new
attribute [local go_sem ↓] ldPost ldWcc

end Go.Proofs.YtgifmpobokaejaaGreatDoor


/-
  Layer 8, walks: the document takes the numbers of results. Conditions: a reader and results at blocks of their own, no numbers yet.
-/
namespace Go.Proofs.YtgifmpobokaejaaGreatDoor
open Go.RowKit
attribute [local go_sem ↓] Go.wp_at_zero Go.wp_at_succ
attribute [local go_sem] rowAt_ptr rowOf_drew rowOf_drewN rowOf_alloc_past rowOf_new
attribute [local go_sem ↓] ldPost ldWcc

attribute [local go_sem] laterLd

def FB (g b B k : Nat) : Prop := k = g ∨ k = b ∨ B ≤ k
theorem Touch.ofB {F : Nat → Prop} {B : Nat} {w w' : World} (h : Below B w w') (hF : ∀ k, B ≤ k → F k) : Touch F w w' :=
  ⟨h.os, h.tape, h.output, h.size, fun k _ hn => h.block k (Nat.lt_of_not_le fun hk2 => hn (hF k hk2))⟩
end Go.Proofs.YtgifmpobokaejaaGreatDoor
