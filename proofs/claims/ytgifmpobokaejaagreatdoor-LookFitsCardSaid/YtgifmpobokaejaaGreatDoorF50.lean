/-
  Layer 8 in plain words: how long the bytes of results are. No condition.
-/
import Derived.Test.YtgifmpobokaejaaGreatDoorF49
import Derived.Test.YtgifmpobokaejaaGreatDoorF09
namespace Go.Proofs.YtgifmpobokaejaaGreatDoor
open Go.RowKit

theorem flat_len8 {α : Type} (f : α → List UInt8) (n : Nat) (l : List α) (h : ∀ x ∈ l, (f x).length ≤ n) : (l.flatMap f).length ≤ n * l.length := by
  induction l with
  | nil => simp
  | cons a l ih =>
    rw [List.flatMap_cons, List.length_append, List.length_cons, Nat.mul_succ]
    have h1 := h a (by simp)
    have h2 := ih fun x hx => h x (by simp [hx])
    omega
theorem opq_len8 (s : List UInt8) : (opq s).length ≤ s.length + 8 := by
  unfold opq
  have h1 := filled_len s
  have h2 := padn_lt s.length
  have h3 := num_len s.length 4
  rw [List.length_append]
  omega
theorem entB_len (whole : Bool) (x : Entry) (h : entM whole x) : (entB whole x).length ≤ 500 := by
  obtain ⟨_, h2, _, h4⟩ := h
  have e1 := num_len x.gen.toNat 8
  have e2 := num_len x.cookie.toNat 8
  have e3 := opq_len8 x.name
  have e4 := opq_len8 x.fh
  have e5 := x.attr.bytes_len
  unfold entB
  rw [List.length_append, List.length_append, List.length_append]
  cases whole
  · simp only [Bool.false_eq_true, if_false, List.length_nil]
    omega
  · obtain ⟨_, _, h6⟩ := h4 rfl
    rw [if_pos rfl, List.length_append]
    omega
theorem numB_len (n : Int) : (numB n).length = 8 := num_len _ 8
theorem rB8_len (d : RepD) (c : Nat) (hm : rM8 d c) (hc : pLetter c) : (rB8 d c).length ≤ 33000 := by
  rcases hc with rfl | rfl | rfl | rfl | rfl | rfl | rfl | rfl | rfl | rfl | rfl | rfl | rfl | rfl
  · have h1 : d.f.fh.length ≤ 64 := hm
    have := opq_len8 d.f.fh
    show (opq d.f.fh).length ≤ 33000
    omega
  · have := d.f.obj.bytes_len
    show d.f.obj.bytes.length ≤ 33000
    omega
  · have := d.f.dir.bytes_len
    show d.f.dir.bytes.length ≤ 33000
    omega
  · have := d.f.wcc.bytes_len
    show d.f.wcc.bytes.length ≤ 33000
    omega
  · have := d.f.wcc2.bytes_len
    show d.f.wcc2.bytes.length ≤ 33000
    omega
  · show (num d.f.access.toNat 4).length ≤ 33000
    rw [num_len]; omega
  · show (num d.f.count.toNat 4).length ≤ 33000
    rw [num_len]; omega
  · show (num d.f.stable.toNat 4).length ≤ 33000
    rw [num_len]; omega
  · show (num d.f.verf.toNat 8).length ≤ 33000
    rw [num_len]; omega
  · show (truth d.f.eof).length ≤ 33000
    simp [truth, num_len]
  · have h1 : d.f.data.length ≤ 256 := hm
    have := opq_len8 d.f.data
    show (opq d.f.data).length ≤ 33000
    omega
  · have h1 : d.us.length ≤ 16 ∧ ∀ n ∈ d.us, numM n := hm
    show (num d.us.length 4 ++ d.us.flatMap numB).length ≤ 33000
    have h2 := flat_len8 numB 8 d.us fun n _ => Nat.le_of_eq (numB_len n)
    rw [List.length_append, num_len]
    omega
  · have h1 : d.es.length ≤ 64 ∧ ∀ x ∈ d.es, entM false x := hm
    show (num d.es.length 4 ++ d.es.flatMap (entB false)).length ≤ 33000
    have h2 := flat_len8 (entB false) 500 d.es fun n hn => entB_len false n (h1.2 n hn)
    rw [List.length_append, num_len]
    omega
  · have h1 : d.es.length ≤ 64 ∧ ∀ x ∈ d.es, entM true x := hm
    show (num d.es.length 4 ++ d.es.flatMap (entB true)).length ≤ 33000
    have h2 := flat_len8 (entB true) 500 d.es fun n hn => entB_len true n (h1.2 n hn)
    rw [List.length_append, num_len]
    omega
theorem pLaid_len (d : RepD) (l : List UInt8) (hl : ∀ k (hk : k < l.length), pLetter l[k].toNat) (hm : ∀ k (hk : k < l.length), rM8 d l[k].toNat) (k : Nat) (hk : k ≤ l.length) : (pLaid d l k).length ≤ 33000 * k := by
  induction k with
  | zero => simp [pLaid]
  | succ k ih =>
    have h1 := ih (by omega)
    have h2 := rB8_len d l[k].toNat (hm k hk) (hl k hk)
    rw [pLaid_succ d l k hk, List.length_append]
    omega
theorem flat_take {α : Type} (f : α → List UInt8) (l : List α) (k : Nat) (hk : k < l.length) : (l.take (k + 1)).flatMap f = (l.take k).flatMap f ++ f l[k] := by
  rw [List.take_add_one, List.getElem?_eq_getElem hk, List.flatMap_append]
  simp
theorem flat_take_len {α : Type} (f : α → List UInt8) (n : Nat) (l : List α) (h : ∀ x ∈ l, (f x).length ≤ n) (k : Nat) : ((l.take k).flatMap f).length ≤ n * l.length := by
  have h1 := flat_len8 f n (l.take k) fun x hx => h x (List.mem_of_mem_take hx)
  have h2 : (l.take k).length ≤ l.length := by rw [List.length_take]; omega
  exact Nat.le_trans h1 (Nat.mul_le_mul_left n h2)
end Go.Proofs.YtgifmpobokaejaaGreatDoor

/-
  Layer 8, walks: the document takes the entries of results. Conditions: a reader and results at blocks of their own, no entries yet.
-/
namespace Go.Proofs.YtgifmpobokaejaaGreatDoor
open Go.RowKit
attribute [local go_sem ↓] Go.wp_at_zero Go.wp_at_succ
attribute [local go_sem] rowAt_ptr rowOf_drew rowOf_drewN rowOf_alloc_past rowOf_new
attribute [local go_sem ↓] ldPost ldEntry

attribute [local go_sem] Entry.at0 Entry.lat0 Entry.at1 Entry.lat1 Entry.at2 Entry.lat2 Entry.at3 Entry.lat3 Entry.at4 Entry.lat4 Entry.at5 Entry.lat5 Entry.at6 Entry.lat6 Entry.at7 Entry.lat7 Entry.at8 Entry.lat8 Entry.at9 Entry.lat9 Entry.at10 Entry.lat10 Entry.at11 Entry.lat11 Entry.at12 Entry.lat12 Entry.at13 Entry.lat13 Entry.at14 Entry.lat14 Entry.sub0_15 Entry.lsub0_15 Entry.sub3_11 Entry.lsub3_11 Entry.sub4_10 Entry.lsub4_10 Entry.len laterLd

section
variable {g b B Y : Nat} {q q' : Rs} {ce : List Value} {z : Reply} {rows : List (List Value)} {w W W' : World}
end
def aok (whole : Bool) (q : Rs) (k : Nat) : Bool := (q.e == 0) && (List.range k).all fun i => oneOk whole (entsK whole q i).2
theorem aok_succ (whole : Bool) (q : Rs) (k : Nat) : aok whole q (k + 1) = (aok whole q k && oneOk whole (entsK whole q k).2) := by
  unfold aok
  rw [List.range_succ, List.all_append, ← Bool.and_assoc]
  simp
theorem aok_no {whole : Bool} {q : Rs} {k n : Nat} (h : aok whole q k = false) (hk : k ≤ n) : aok whole q n = false := by
  induction n with
  | zero => obtain rfl : k = 0 := by omega
            exact h
  | succ n ih =>
    by_cases he : k = n + 1
    · subst he; exact h
    · rw [aok_succ, ih (by omega)]; rfl
theorem bothZ {a b : Int} {o : Bool} (h : ((a == 0) && (b == 0)) = o) : (o = true → a = 0 ∧ b = 0) ∧ (o = false → ¬ (a = 0 ∧ b = 0)) := by
  subst h
  constructor
  · intro h; simpa using h
  · intro h; rintro ⟨rfl, rfl⟩; simp at h

theorem fold_set8 : ∀ (cs : List Value) (k : Nat) (base : Array Value), base.size = k + cs.length → List.foldl (fun (a : Array Value) (y : Value × Nat) => a.setIfInBounds y.snd y.fst) base (cs.zipIdx k) = (base.toList.take k ++ cs).toArray
  | [], k, base, h => by
    have : base.toList.take k = base.toList := List.take_of_length_le (by simp at h ⊢; omega)
    simp [this]
  | c :: cs, k, base, h => by
    rw [List.zipIdx_cons, List.foldl_cons, fold_set8 cs (k + 1) _ (by simp at h ⊢; omega)]
    congr 1
    have hk : k < base.toList.length := by simp at h ⊢; omega
    rw [Array.toList_setIfInBounds, List.take_add_one, List.getElem?_set_self hk, List.take_set_of_le (Nat.le_refl _)]
    simp
theorem foldEntry8 (x : Entry) : List.foldl (fun (cs : Array Value) (y : Value × Nat) => cs.setIfInBounds y.snd y.fst) #[.int .i64 0, .string ⟨#[]⟩, .int .i64 0, .bool false, .int .i64 0, .int .i64 0, .int .i64 0, .int .i64 0, .int .i64 0, .int .i64 0, .int .i64 0, .int .i64 0, .int .i64 0, .int .i64 0, .string ⟨#[]⟩] x.vals.zipIdx = x.vals.toArray := by
  rw [fold_set8 x.vals 0 _ (by rw [Entry.len]; rfl)]
  rfl
attribute [local go_sem ↓] foldEntry8

end Go.Proofs.YtgifmpobokaejaaGreatDoor


/-
  Layer 8, walks: the document takes the entries of results, with all that they have. Conditions: a reader and results at blocks of their own, no entries yet.
-/
namespace Go.Proofs.YtgifmpobokaejaaGreatDoor
open Go.RowKit
attribute [local go_sem ↓] Go.wp_at_zero Go.wp_at_succ
attribute [local go_sem] rowAt_ptr rowOf_drew rowOf_drewN rowOf_alloc_past rowOf_new
attribute [local go_sem ↓] ldPost ldEntry foldEntry8

attribute [local go_sem] Entry.at0 Entry.lat0 Entry.at1 Entry.lat1 Entry.at2 Entry.lat2 Entry.at3 Entry.lat3 Entry.at4 Entry.lat4 Entry.at5 Entry.lat5 Entry.at6 Entry.lat6 Entry.at7 Entry.lat7 Entry.at8 Entry.lat8 Entry.at9 Entry.lat9 Entry.at10 Entry.lat10 Entry.at11 Entry.lat11 Entry.at12 Entry.lat12 Entry.at13 Entry.lat13 Entry.at14 Entry.lat14 Entry.sub0_15 Entry.lsub0_15 Entry.sub3_11 Entry.lsub3_11 Entry.sub4_10 Entry.lsub4_10 Entry.len laterLd

end Go.Proofs.YtgifmpobokaejaaGreatDoor


/-
  Layer 8, walks: the document takes the field of any letter. Conditions: a reader and results at blocks of their own; no rows yet at a row's letter; machine texts.
-/
namespace Go.Proofs.YtgifmpobokaejaaGreatDoor
open Go.RowKit
attribute [local go_sem ↓] Go.wp_at_zero Go.wp_at_succ
attribute [local go_sem] rowAt_ptr rowOf_drew rowOf_drewN rowOf_alloc_past rowOf_new

def pRow (c : Nat) : Bool := c == 110 || (c == 108 || c == 112)
/-- results as data, at block b, their rows in blocks from B on; none yet, if 'row' is false -/
def There8F (B b : Nat) (row : Bool) (d : RepD) (W : World) : Prop :=
  ∃ z : Reply, Blk W b 48 z.vals ∧ z.bare = d.f ∧ RowS W B 80 15 (.slice z.ea z.en z.ec) (d.es.map Entry.vals) ∧ RowS W B 3 1 (.slice z.ua z.un z.uc) (d.us.map int1) ∧
    (row = false → (z.ea = none ∧ z.en = 0 ∧ z.ec = 0) ∧ (z.ua = none ∧ z.un = 0 ∧ z.uc = 0))
theorem RowS.pastF {w w' : World} {B e sz : Nat} {v : Value} {rows : List (List Value)} {g b : Nat} (h : RowS w B e sz v rows) (hg : g < B) (hb : b < B) (hT : Touch (fun k => k = g ∨ k = b) w w') : RowS w' B e sz v rows :=
  RowS.touch h hT fun k hk hf => by have := (RowS.lt h k hk).1; omega
theorem RowS.nil_of {w : World} {B e sz : Nat} {rows : List (List Value)} (h : RowS w B e sz (.slice none 0 0) rows) : rows = [] := by
  rcases h.2.2 with ⟨_, h⟩ | ⟨g, cap, cur, hv, _⟩
  · exact List.eq_nil_of_length_eq_zero h
  · cases hv
theorem Touch.fb {g b B : Nat} {w w' : World} (h : Touch (fun k => k = g ∨ k = b) w w') : Touch (FB g b B) w w' := h.mono fun _ _ hk => hk.elim .inl fun h => .inr (.inl h)
end Go.Proofs.YtgifmpobokaejaaGreatDoor


/-
  Layer 8, walks: the document's Get of results. Condition: a text no longer than 10^18.
-/
namespace Go.Proofs.YtgifmpobokaejaaGreatDoor
open Go.RowKit
attribute [local go_sem ↓] Go.wp_at_zero Go.wp_at_succ
attribute [local go_sem] rowAt_ptr rowOf_drew rowOf_drewN rowOf_alloc_past rowOf_new
attribute [local go_sem ↓] ldReply

attribute [local go_sem] Reply.at0 Reply.lat0 Reply.at1 Reply.lat1 Reply.at2 Reply.lat2 Reply.at3 Reply.lat3 Reply.at4 Reply.lat4 Reply.at5 Reply.lat5 Reply.at6 Reply.lat6 Reply.at7 Reply.lat7 Reply.at8 Reply.lat8 Reply.at9 Reply.lat9 Reply.at10 Reply.lat10 Reply.at11 Reply.lat11 Reply.at12 Reply.lat12 Reply.at13 Reply.lat13 Reply.at14 Reply.lat14 Reply.at15 Reply.lat15 Reply.at16 Reply.lat16 Reply.at17 Reply.lat17 Reply.at18 Reply.lat18 Reply.at19 Reply.lat19 Reply.at20 Reply.lat20 Reply.at21 Reply.lat21 Reply.at22 Reply.lat22 Reply.at23 Reply.lat23 Reply.at24 Reply.lat24 Reply.at25 Reply.lat25 Reply.at26 Reply.lat26 Reply.at27 Reply.lat27 Reply.at28 Reply.lat28 Reply.at29 Reply.lat29 Reply.at30 Reply.lat30 Reply.at31 Reply.lat31 Reply.at32 Reply.lat32 Reply.at33 Reply.lat33 Reply.at34 Reply.lat34 Reply.at35 Reply.lat35 Reply.at36 Reply.lat36 Reply.at37 Reply.lat37 Reply.at38 Reply.lat38 Reply.at39 Reply.lat39 Reply.at40 Reply.lat40 Reply.at41 Reply.lat41 Reply.at42 Reply.lat42 Reply.at43 Reply.lat43 Reply.at44 Reply.lat44 Reply.at45 Reply.lat45 Reply.at46 Reply.lat46 Reply.at47 Reply.lat47 Reply.at48 Reply.lat48 Reply.at49 Reply.lat49 Reply.at50 Reply.lat50 Reply.at51 Reply.lat51 Reply.at52 Reply.lat52 Reply.at53 Reply.lat53 Reply.at54 Reply.lat54 Reply.at55 Reply.lat55 Reply.at56 Reply.lat56 Reply.at57 Reply.lat57 Reply.sub0_58 Reply.lsub0_58 Reply.sub2_11 Reply.lsub2_11 Reply.sub3_10 Reply.lsub3_10 Reply.sub13_11 Reply.lsub13_11 Reply.sub14_10 Reply.lsub14_10 Reply.sub24_13 Reply.lsub24_13 Reply.sub24_2 Reply.lsub24_2 Reply.sub26_11 Reply.lsub26_11 Reply.sub27_10 Reply.lsub27_10 Reply.sub37_13 Reply.lsub37_13 Reply.sub37_2 Reply.lsub37_2 Reply.sub39_11 Reply.lsub39_11 Reply.sub40_10 Reply.lsub40_10 Reply.len

theorem lettersPQ_short (fine : Bool) : ∀ s ∈ lettersPQ fine, s.length ≤ 9 := by cases fine <;> decide
theorem pFields_short (p : Int) (fine : Bool) : (pFields p fine).length ≤ 9 := by
  unfold pFields
  split
  · simp
  · rcases Nat.lt_or_ge p.toNat (lettersPQ fine).length with h | h
    · have he : (lettersPQ fine).getD p.toNat [] = (lettersPQ fine)[p.toNat] := by simp [List.getD, List.getElem?_eq_getElem h]
      rw [he]
      exact lettersPQ_short fine _ (List.getElem_mem h)
    · simp [List.getD, List.getElem?_eq_none h]
def slotR (c : Nat) : Nat := if pRow c then 0 else c
theorem lettersPQ_nodupR (fine : Bool) : ∀ s ∈ lettersPQ fine, (s.map fun c => slotR c.toNat).Nodup := by cases fine <;> decide
theorem pFields_nodupR (p : Int) (fine : Bool) : ((pFields p fine).map fun c => slotR c.toNat).Nodup := by
  unfold pFields
  split
  · exact List.nodup_nil
  · rcases Nat.lt_or_ge p.toNat (lettersPQ fine).length with h | h
    · have he : (lettersPQ fine).getD p.toNat [] = (lettersPQ fine)[p.toNat] := by simp [List.getD, List.getElem?_eq_getElem h]
      rw [he]
      exact lettersPQ_nodupR fine _ (List.getElem_mem h)
    · simp [List.getD, List.getElem?_eq_none h]
/-- has a row's letter been taken -/
def rowUp (l : List UInt8) (k : Nat) : Bool := (l.take k).any fun c => pRow c.toNat
theorem rowUp_succ (l : List UInt8) (k : Nat) (hk : k < l.length) : rowUp l (k + 1) = (rowUp l k || pRow l[k].toNat) := by
  unfold rowUp
  rw [List.take_add_one, List.getElem?_eq_getElem hk, List.any_append]
  simp
theorem rowUp_no {l : List UInt8} (hn : (l.map fun c => slotR c.toNat).Nodup) {k : Nat} (hk : k < l.length) (h : pRow l[k].toNat = true) : rowUp l k = false := by
  rw [Bool.eq_false_iff]
  intro hu
  unfold rowUp at hu
  obtain ⟨c, hc, hp⟩ := List.any_eq_true.1 hu
  obtain ⟨j, hj, rfl⟩ := List.getElem_of_mem hc
  have hj2 : j < k := by rw [List.length_take] at hj; omega
  rw [List.getElem_take] at hp
  have := (List.pairwise_iff_getElem.1 hn) j k (by rw [List.length_map]; omega) (by rw [List.length_map]; omega) hj2
  rw [List.getElem_map, List.getElem_map] at this
  refine this ?_
  show slotR _ = slotR _
  unfold slotR
  rw [if_pos hp, if_pos h]
/-- what the document's Get gives -/
def GetF8 (x : Option RepD) (w : World) (e : Ending) (w' : World) : Prop :=
  (match x with
    | some d => ∃ z : Reply, e = .returned (.tuple #[.agg z.vals.toArray, .bool true]) ∧ z.bare = d.f ∧ RowS w' w.heap.size 80 15 (.slice z.ea z.en z.ec) (d.es.map Entry.vals) ∧ RowS w' w.heap.size 3 1 (.slice z.ua z.un z.uc) (d.us.map int1)
    | none => e = .returned (.tuple #[.agg replyZ.vals.toArray, .bool false])) ∧ Below w.heap.size w w'
theorem GetF8.no {x : Option RepD} {w w' : World} (h : x = none) (hB : Below w.heap.size w w') : GetF8 x w (.returned (.tuple #[.agg replyZ.vals.toArray, .bool false])) w' := by subst h; exact ⟨rfl, hB⟩
theorem There8F.stays {B b : Nat} {row : Bool} {d : RepD} {W W' : World} (h : There8F B b row d W) (hb : Below W.heap.size W W') : There8F B b row d W' := by
  obtain ⟨z, hA, hz, hE, hU, h0⟩ := h
  exact ⟨z, hA.stays hb, hz, RowS.stays hE hb, RowS.stays hU hb, h0⟩

end Go.Proofs.YtgifmpobokaejaaGreatDoor
