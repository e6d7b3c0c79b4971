/-
  Layer 22, plain: what is read of a tree that may be are results that may be, and not too long. No condition but what a tree has.
-/
import Derived.Test.YtgifmpobokaejaaGreatDoorF37
import Derived.Test.YtgifmpobokaejaaGreatDoorF43
import Derived.Test.YtgifmpobokaejaaGreatDoorF34
import Derived.Test.YtgifmpobokaejaaGreatDoorF48
import Derived.Test.YtgifmpobokaejaaGreatDoorF50
import Derived.Test.YtgifmpobokaejaaGreatDoorF10
import Derived.Test.YtgifmpobokaejaaGreatDoorF16
import Derived.Test.YtgifmpobokaejaaGreatDoorF49
namespace Go.Proofs.YtgifmpobokaejaaGreatDoor
open Go.RowKit

/-- may results be, with these letters? (as they are told) -/
structure RepOkD (L : List UInt8) (d : RepD) : Prop where
  st : pKnown d.f.status = true
  oks : d.f.obj.ok = true ∧ d.f.dir.ok = true ∧ d.f.wcc.ok = true ∧ d.f.wcc2.ok = true
  posts : (inL L 97 = false → d.f.obj = postZ8) ∧ (inL L 68 = false → d.f.dir = postZ8) ∧ (inL L 119 = false → d.f.wcc = wccZ8) ∧ (inL L 87 = false → d.f.wcc2 = wccZ8)
  texts : d.f.fh.length ≤ 64 ∧ (inL L 104 = false → d.f.fh = []) ∧ d.f.data.length ≤ 256 ∧ (inL L 100 = false → d.f.data = []) ∧ (inL L 101 = false → d.f.eof = false)
  nums : d.us.length ≤ 16 ∧ (inL L 110 = false → d.us = []) ∧ ∀ u ∈ d.us, 0 ≤ u ∧ u ≤ 9223372036854775807
  ints : NumOk (inL L 120) d.f.access 4294967295 ∧ NumOk (inL L 99) d.f.count 4294967295 ∧ NumOk (inL L 115) d.f.stable 4294967295 ∧ NumOk (inL L 118) d.f.verf 9223372036854775807
  ents : EntsRep (inL L 108) (inL L 112) d.es
theorem RepOkD.rep {L : List UInt8} {d : RepD} {z : Reply} (h : RepOkD L d) (hz : z.bare = d.f) : RepOk L z d.es d.us := by
  obtain ⟨f, es, us⟩ := d
  simp only at hz h ⊢
  subst hz
  exact ⟨h.st, h.oks, h.posts, h.texts, ⟨h.nums.1, h.nums.2.1, fun u hu => (h.nums.2.2 u hu).1⟩, h.ints, h.ents⟩
/-- the machine's bounds on what is told of nodes -/
structure RepGood (d : RepD) : Prop where
  obj : d.f.obj.good
  dir : d.f.dir.good
  wcc : d.f.wcc.good
  wcc2 : d.f.wcc2.good
  ents : ∀ x ∈ d.es, x.good
theorem postZ8_good : postZ8.good := ⟨by decide, by decide, by decide, by decide, by decide, by decide, by decide, by decide, by decide, by decide⟩

theorem band6_small (x y : Int) (h0 : 0 ≤ x) (h1 : x ≤ 63) : 0 ≤ band6 x y ∧ band6 x y ≤ 63 := by
  have h2 : (BitVec.ofInt 64 x &&& BitVec.ofInt 64 y).toNat ≤ 63 := by
    rw [BitVec.toNat_and]
    refine Nat.le_trans Nat.and_le_left ?_
    rw [BitVec.toNat_ofInt]
    omega
  unfold band6
  rw [IntWalk.i64_in _ (by omega)]
  omega
theorem accP_small (a : Attr) (u g k : Int) : 0 ≤ accP a u g k ∧ accP a u g k ≤ 63 := by
  unfold accP
  refine band6_small _ _ ?_ ?_
  all_goals (repeat' split) <;> omega
theorem targetSt_short {l : List UInt8} (h : targetSt l = 0) : l.length ≤ 48 := by
  unfold targetSt at h
  split at h
  · cases h
  · split at h
    · cases h
    · omega
theorem genText_short {g : Int} (h : g ≤ 9223372036854775807) : (genText g).length ≤ 19 := by
  unfold genText
  split
  · exact Nat.zero_le _
  · exact dec_len19 (by omega)
theorem nRead_short (d : List UInt8) (o c : Int) : (nRead d o c).1.length ≤ 256 := by
  unfold nRead nCount
  simp only [List.length_take]
  omega
/-- what entries take of a page -/
def costs (more : Int) : List Entry → Int
  | [] => 0
  | x :: l => (24 + (x.name.length : Int) + more) + costs more l
theorem pageN_costs (more : Int) (hm : 0 ≤ more) : ∀ (l : List Entry) (lf : Int), costs more (l.take (pageN l lf more)) ≤ max lf 0
  | [], lf => by simp only [List.take_nil, costs]; omega
  | x :: l, lf => by
    unfold pageN
    split
    · simp only [List.take_zero, costs]; omega
    · rw [List.take_succ_cons, costs]
      have := pageN_costs more hm l (lf - (24 + (x.name.length : Int) + more))
      omega
theorem costs_len (more : Int) (hm : 0 ≤ more) : ∀ l : List Entry, 24 * (l.length : Int) ≤ costs more l
  | [] => by simp [costs]
  | x :: l => by
    have := costs_len more hm l
    rw [costs, List.length_cons]
    omega
theorem costs_bytes (wh : Bool) (more : Int) (f : Entry → Entry) : ∀ l : List Entry, (∀ x ∈ l, ((entB wh (f x)).length : Int) ≤ 24 + (x.name.length : Int) + more) → (((l.map f).flatMap (entB wh)).length : Int) ≤ costs more l
  | [], _ => by simp [costs]
  | x :: l, h => by
    have h1 := costs_bytes wh more f l (fun y hy => h y (List.mem_cons_of_mem _ hy))
    have h2 := h x (by simp)
    rw [List.map_cons, List.flatMap_cons, List.length_append, costs]
    omega
theorem entB_plain (x : Entry) : ((entB false x).length : Int) ≤ 24 + (x.name.length : Int) + 0 := by
  have e1 := num_len x.gen.toNat 8
  have e2 := num_len x.cookie.toNat 8
  have e3 := opq_len8 x.name
  unfold entB
  simp only [List.length_append, Bool.false_eq_true, if_false, List.length_nil]
  omega
theorem entB_whole (x : Entry) (h : x.fh.length ≤ 19) : ((entB true x).length : Int) ≤ 24 + (x.name.length : Int) + 96 := by
  have e1 := num_len x.gen.toNat 8
  have e2 := num_len x.cookie.toNat 8
  have e3 := opq_len8 x.name
  have e4 := opq_len8 x.fh
  have e5 := x.attr.bytes_len
  unfold entB
  simp only [List.length_append, if_true]
  omega
/-- how long a letter's field may be -/
def most8 (c : UInt8) : Nat := if c = 104 then 72 else if c = 97 ∨ c = 68 then 60 else if c = 119 ∨ c = 87 then 72 else if c = 120 ∨ c = 99 ∨ c = 115 ∨ c = 101 then 4 else if c = 118 then 8 else if c = 100 then 264 else if c = 110 then 132 else 1028
theorem inL_mem {L : List UInt8} {c : UInt8} (h : c ∈ L) : inL L c = true := by
  unfold inL
  exact List.contains_iff_mem.2 h
theorem u8_of {c : UInt8} {n : Nat} (h : c.toNat = n) (hn : n < 256) : c = UInt8.ofNat n := by
  apply UInt8.toNat_inj.1
  rw [h, UInt8.toNat_ofNat']
  omega
/-- the lists' bytes are short enough -/
def FlatOk (L : List UInt8) (d : RepD) : Prop := (inL L 108 = true → (d.es.flatMap (entB false)).length ≤ 1024) ∧ (inL L 112 = true → (d.es.flatMap (entB true)).length ≤ 1024)
theorem rM8_of {L : List UInt8} {d : RepD} (h : RepOkD L d) (hg : RepGood d) (hf : FlatOk L d) {c : UInt8} (hc : c ∈ L) (hl : pLetter c.toNat) : rM8 d c.toNat ∧ (rB8 d c.toNat).length ≤ most8 c := by
  have hin := inL_mem hc
  rcases hl with e | e | e | e | e | e | e | e | e | e | e | e | e | e
  all_goals
    have e2 := u8_of e (by decide)
    rw [e2] at hin
    rw [e, e2]
  · refine ⟨h.texts.1, ?_⟩
    have := opq_len8 d.f.fh
    have := h.texts.1
    show (opq d.f.fh).length ≤ 72
    omega
  · exact ⟨⟨h.oks.1, hg.obj⟩, d.f.obj.bytes_len⟩
  · exact ⟨⟨h.oks.2.1, hg.dir⟩, d.f.dir.bytes_len⟩
  · exact ⟨⟨h.oks.2.2.1, hg.wcc⟩, d.f.wcc.bytes_len⟩
  · exact ⟨⟨h.oks.2.2.2, hg.wcc2⟩, d.f.wcc2.bytes_len⟩
  · have := h.ints.1.1 hin
    exact ⟨⟨this.1, by omega⟩, Nat.le_of_eq (num_len _ 4)⟩
  · have := h.ints.2.1.1 hin
    exact ⟨⟨this.1, by omega⟩, Nat.le_of_eq (num_len _ 4)⟩
  · have := h.ints.2.2.1.1 hin
    exact ⟨⟨this.1, by omega⟩, Nat.le_of_eq (num_len _ 4)⟩
  · have := h.ints.2.2.2.1 hin
    exact ⟨⟨this.1, by omega⟩, Nat.le_of_eq (num_len _ 8)⟩
  · exact ⟨trivial, by show (truth d.f.eof).length ≤ 4; simp [truth, num_len]⟩
  · refine ⟨h.texts.2.2.1, ?_⟩
    have := opq_len8 d.f.data
    have := h.texts.2.2.1
    show (opq d.f.data).length ≤ 264
    omega
  · refine ⟨⟨h.nums.1, fun n hn => h.nums.2.2 n hn⟩, ?_⟩
    show (num d.us.length 4 ++ d.us.flatMap numB).length ≤ 132
    have h2 := flat_len8 numB 8 d.us fun n _ => Nat.le_of_eq (numB_len n)
    have := h.nums.1
    rw [List.length_append, num_len]
    omega
  · have hx := h.ents
    rw [show UInt8.ofNat 108 = 108 from rfl] at hin
    rcases hx with ⟨-, -, h1, h2⟩ | ⟨h1, -⟩ | ⟨h1, -⟩
    · refine ⟨⟨h1, fun x hx => ⟨⟨(h2 x hx).1, ?_⟩, (h2 x hx).2.2.1, ⟨(h2 x hx).2.1, ?_⟩, fun h => by cases h⟩⟩, ?_⟩
      · exact (Go.bounds_i64 (hg.ents x hx).1).2
      · exact (Go.bounds_i64 (hg.ents x hx).2.2.1).2
      · show (num d.es.length 4 ++ d.es.flatMap (entB false)).length ≤ 1028
        have := hf.1 hin
        rw [List.length_append, num_len]
        omega
    · rw [hin] at h1; cases h1
    · rw [hin] at h1; cases h1
  · have hx := h.ents
    rw [show UInt8.ofNat 112 = 112 from rfl] at hin
    rcases hx with ⟨-, h1, -⟩ | ⟨-, -, h1, h2⟩ | ⟨-, h1, -⟩
    · rw [hin] at h1; cases h1
    · refine ⟨⟨h1, fun x hx => ⟨⟨(h2 x hx).1, ?_⟩, (h2 x hx).2.2.1, ⟨(h2 x hx).2.1, ?_⟩, fun _ => ⟨(h2 x hx).2.2.2.2.1, (hg.ents x hx).2.2.2.1, (h2 x hx).2.2.2.1⟩⟩⟩, ?_⟩
      · exact (Go.bounds_i64 (hg.ents x hx).1).2
      · exact (Go.bounds_i64 (hg.ents x hx).2.2.1).2
      · show (num d.es.length 4 ++ d.es.flatMap (entB true)).length ≤ 1028
        have := hf.2 hin
        rw [List.length_append, num_len]
        omega
    · rw [hin] at h1; cases h1
theorem pLaid_most {d : RepD} : ∀ (l : List UInt8), (∀ c ∈ l, (rB8 d c.toNat).length ≤ most8 c) → (l.flatMap fun c => rB8 d c.toNat).length ≤ (l.map most8).sum
  | [], _ => by simp
  | c :: l, h => by
    have := pLaid_most l (fun x hx => h x (List.mem_cons_of_mem _ hx))
    have h2 := h c (by simp)
    rw [List.flatMap_cons, List.length_append, List.map_cons, List.sum_cons]
    omega
theorem most_all (p : Int) (fine : Bool) : ((pFields p fine).map most8).sum ≤ 1800 := by
  have hmem : pFields p fine = [] ∨ pFields p fine ∈ lettersP ++ lettersQ := by
    unfold pFields
    split
    · exact .inl rfl
    · cases fine
      all_goals
        simp only [lettersPQ, if_true, Bool.false_eq_true, if_false]
        rw [List.getD_eq_getElem?_getD]
        first
        | (cases hk : lettersP[p.toNat]? with
           | none => exact .inl rfl
           | some l => exact .inr (List.mem_append_left _ (List.mem_of_getElem? hk)))
        | (cases hk : lettersQ[p.toNat]? with
           | none => exact .inl rfl
           | some l => exact .inr (List.mem_append_right _ (List.mem_of_getElem? hk)))
  rcases hmem with h | h
  · rw [h]; decide
  · have hall : (lettersP ++ lettersQ).all (fun l => decide ((l.map most8).sum ≤ 1800)) = true := by decide
    exact of_decide_eq_true (List.all_eq_true.1 hall _ h)
end Go.Proofs.YtgifmpobokaejaaGreatDoor

/-
  Layer 22, plain: what is read of a tree that may be are results that may be: each procedure. Conditions: what a tree has.
-/
namespace Go.Proofs.YtgifmpobokaejaaGreatDoor
open Go.RowKit

/-- what is told of a tree that may be, of one node -/
structure NodeX (n : Nd) : Prop where
  ok : n.attr.ok = true
  good : n.attr.good
  link : n.attr.type = 5 → (dataL n).length ≤ 48
theorem postN_ok {n : Nd} (h : NodeX n) : (postN n).ok = true := by
  unfold postN Post.ok
  simp [h.ok]
theorem attr_pos {a : Attr} (h : a.ok = true) : 0 ≤ a.gen ∧ 0 ≤ a.change := by
  unfold Attr.ok at h
  simp only [Bool.and_eq_true, decide_eq_true_eq] at h
  omega
theorem wccN_ok {n : Nd} (h : NodeX n) : (⟨⟨true, n.attr.change⟩, postN n⟩ : Wcc).ok = true := by
  have h1 := postN_ok h
  have h2 := (attr_pos h.ok).2
  have h3 := (Go.bounds_i64 h.good.2.2.2.2.2.2.2.2.1).2
  unfold Wcc.ok Opt.ok okN
  simp only [if_true, Bool.and_eq_true, decide_eq_true_eq]
  exact ⟨⟨h2, h3⟩, h1⟩
/-- results without any of the node -/
theorem zero_ok (L : List UInt8) (s : Int) (hs : pKnown s = true) (hL : ¬ (inL L 108 = true ∧ inL L 112 = true)) : RepOkD L (statD s) ∧ RepGood (statD s) ∧ FlatOk L (statD s) := by
  have h4 : (0 : Int) ≤ 4294967295 := by decide
  have h8 : (0 : Int) ≤ 9223372036854775807 := by decide
  refine ⟨⟨hs, ⟨rfl, rfl, rfl, rfl⟩, ⟨fun _ => rfl, fun _ => rfl, fun _ => rfl, fun _ => rfl⟩, ⟨Nat.zero_le _, fun _ => rfl, Nat.zero_le _, fun _ => rfl, fun _ => rfl⟩, ⟨Nat.zero_le _, fun _ => rfl, (fun u hu => by cases hu)⟩, ?_, ?_⟩, ⟨postZ8_good, postZ8_good, ⟨(by decide : (Lit.int .i64 0).wf = true), postZ8_good⟩, ⟨(by decide : (Lit.int .i64 0).wf = true), postZ8_good⟩, (fun x hx => by cases hx)⟩, ⟨fun _ => Nat.zero_le _, fun _ => Nat.zero_le _⟩⟩
  · exact ⟨⟨fun _ => ⟨Int.le_refl 0, h4⟩, fun _ => rfl⟩, ⟨fun _ => ⟨Int.le_refl 0, h4⟩, fun _ => rfl⟩, ⟨fun _ => ⟨Int.le_refl 0, h4⟩, fun _ => rfl⟩, ⟨fun _ => ⟨Int.le_refl 0, h8⟩, fun _ => rfl⟩⟩
  · show EntsRep _ _ []
    unfold EntsRep
    cases h1 : inL L 108 <;> cases h2 : inL L 112
    · exact .inr (.inr ⟨rfl, rfl, rfl⟩)
    · exact .inr (.inl ⟨rfl, rfl, Nat.zero_le _, (fun x hx => by cases hx)⟩)
    · exact .inl ⟨rfl, rfl, Nat.zero_le _, (fun x hx => by cases hx)⟩
    · exact absurd ⟨h1, h2⟩ hL
/-- three things at once -/
def All8 (L : List UInt8) (d : RepD) : Prop := RepOkD L d ∧ RepGood d ∧ FlatOk L d
theorem All8.obj {L : List UInt8} {d : RepD} (h : All8 L d) {n : Nd} (hn : NodeX n) (hL : inL L 97 = true) : All8 L { d with f := { d.f with obj := postN n } } :=
  ⟨⟨h.1.st, ⟨postN_ok hn, h.1.oks.2⟩, ⟨(fun e => by rw [hL] at e; cases e), h.1.posts.2⟩, h.1.texts, h.1.nums, h.1.ints, h.1.ents⟩, ⟨hn.good, h.2.1.dir, h.2.1.wcc, h.2.1.wcc2, h.2.1.ents⟩, h.2.2⟩
theorem All8.dir {L : List UInt8} {d : RepD} (h : All8 L d) {n : Nd} (hn : NodeX n) (hL : inL L 68 = true) : All8 L { d with f := { d.f with dir := postN n } } :=
  ⟨⟨h.1.st, ⟨h.1.oks.1, postN_ok hn, h.1.oks.2.2⟩, ⟨h.1.posts.1, (fun e => by rw [hL] at e; cases e), h.1.posts.2.2⟩, h.1.texts, h.1.nums, h.1.ints, h.1.ents⟩, ⟨h.2.1.obj, hn.good, h.2.1.wcc, h.2.1.wcc2, h.2.1.ents⟩, h.2.2⟩
theorem All8.wcc {L : List UInt8} {d : RepD} (h : All8 L d) {n : Nd} (hn : NodeX n) (hL : inL L 119 = true) : All8 L { d with f := { d.f with wcc := ⟨⟨true, n.attr.change⟩, postN n⟩ } } :=
  ⟨⟨h.1.st, ⟨h.1.oks.1, h.1.oks.2.1, wccN_ok hn, h.1.oks.2.2.2⟩, ⟨h.1.posts.1, h.1.posts.2.1, (fun e => by rw [hL] at e; cases e), h.1.posts.2.2.2⟩, h.1.texts, h.1.nums, h.1.ints, h.1.ents⟩, ⟨h.2.1.obj, h.2.1.dir, ⟨hn.good.2.2.2.2.2.2.2.2.1, hn.good⟩, h.2.1.wcc2, h.2.1.ents⟩, h.2.2⟩
theorem All8.data {L : List UInt8} {d : RepD} (h : All8 L d) (s : List UInt8) (e : Bool) (hs : s.length ≤ 256) (hL : inL L 100 = true) (hE : inL L 101 = true ∨ e = false) : All8 L { d with f := { d.f with data := s, eof := e } } :=
  ⟨⟨h.1.st, h.1.oks, h.1.posts, ⟨h.1.texts.1, h.1.texts.2.1, hs, (fun x => by rw [hL] at x; cases x), (fun x => by
    rcases hE with hE | hE
    · rw [hE] at x; cases x
    · exact hE)⟩, h.1.nums, h.1.ints, h.1.ents⟩, ⟨h.2.1.obj, h.2.1.dir, h.2.1.wcc, h.2.1.wcc2, h.2.1.ents⟩, h.2.2⟩
theorem All8.nums {L : List UInt8} {d : RepD} (h : All8 L d) (us : List Int) (hl : us.length ≤ 16) (hu : ∀ u ∈ us, 0 ≤ u ∧ u ≤ 9223372036854775807) (hL : inL L 110 = true) : All8 L { d with us := us } :=
  ⟨⟨h.1.st, h.1.oks, h.1.posts, h.1.texts, ⟨hl, (fun x => by rw [hL] at x; cases x), hu⟩, h.1.ints, h.1.ents⟩, ⟨h.2.1.obj, h.2.1.dir, h.2.1.wcc, h.2.1.wcc2, h.2.1.ents⟩, h.2.2⟩
theorem All8.access {L : List UInt8} {d : RepD} (h : All8 L d) (a : Int) (h0 : 0 ≤ a) (h1 : a ≤ 4294967295) (hL : inL L 120 = true) : All8 L { d with f := { d.f with access := a } } :=
  ⟨⟨h.1.st, h.1.oks, h.1.posts, h.1.texts, h.1.nums, ⟨⟨fun _ => ⟨h0, h1⟩, (fun x => by rw [hL] at x; cases x)⟩, h.1.ints.2⟩, h.1.ents⟩, ⟨h.2.1.obj, h.2.1.dir, h.2.1.wcc, h.2.1.wcc2, h.2.1.ents⟩, h.2.2⟩
theorem All8.verf {L : List UInt8} {d : RepD} (h : All8 L d) (v : Int) (h0 : 0 ≤ v) (h1 : v ≤ 9223372036854775807) (hL : inL L 118 = true) : All8 L { d with f := { d.f with verf := v } } :=
  ⟨⟨h.1.st, h.1.oks, h.1.posts, h.1.texts, h.1.nums, ⟨h.1.ints.1, h.1.ints.2.1, h.1.ints.2.2.1, ⟨fun _ => ⟨h0, h1⟩, (fun x => by rw [hL] at x; cases x)⟩⟩, h.1.ents⟩, ⟨h.2.1.obj, h.2.1.dir, h.2.1.wcc, h.2.1.wcc2, h.2.1.ents⟩, h.2.2⟩
theorem All8.eof {L : List UInt8} {d : RepD} (h : All8 L d) (e : Bool) (hL : inL L 101 = true) : All8 L { d with f := { d.f with eof := e } } :=
  ⟨⟨h.1.st, h.1.oks, h.1.posts, ⟨h.1.texts.1, h.1.texts.2.1, h.1.texts.2.2.1, h.1.texts.2.2.2.1, (fun x => by rw [hL] at x; cases x)⟩, h.1.nums, h.1.ints, h.1.ents⟩, ⟨h.2.1.obj, h.2.1.dir, h.2.1.wcc, h.2.1.wcc2, h.2.1.ents⟩, h.2.2⟩
theorem All8.fh {L : List UInt8} {d : RepD} (h : All8 L d) (s : List UInt8) (hs : s.length ≤ 64) (hL : inL L 104 = true) : All8 L { d with f := { d.f with fh := s } } :=
  ⟨⟨h.1.st, h.1.oks, h.1.posts, ⟨hs, (fun x => by rw [hL] at x; cases x), h.1.texts.2.2⟩, h.1.nums, h.1.ints, h.1.ents⟩, ⟨h.2.1.obj, h.2.1.dir, h.2.1.wcc, h.2.1.wcc2, h.2.1.ents⟩, h.2.2⟩
theorem All8.ents {L : List UInt8} {d : RepD} (h : All8 L d) (es : List Entry) (he : EntsRep (inL L 108) (inL L 112) es) (hg : ∀ x ∈ es, x.good) (hf : FlatOk L { d with es := es }) : All8 L { d with es := es } :=
  ⟨⟨h.1.st, h.1.oks, h.1.posts, h.1.texts, h.1.nums, h.1.ints, he⟩, ⟨h.2.1.obj, h.2.1.dir, h.2.1.wcc, h.2.1.wcc2, hg⟩, hf⟩
/-- what a tree that may be tells of its nodes and their entries -/
structure TreeX (t : Tr) (ps : List (Nd × List Entry)) : Prop where
  ns : t.ns = ps.map (·.1)
  node : ∀ n ∈ t.ns, NodeX n
  ents : ∀ p ∈ ps, ∀ x ∈ p.2, 1 ≤ x.gen ∧ 1 ≤ x.cookie ∧ x.name.length ≤ 24 ∧ x.fh = [] ∧ x.attr = postZ8 ∧ x.good
  lim : t.lim.ok = true
theorem TreeOk.toX {C : Nd → Prop} {t : Tr} {ps : List (Nd × List Entry)} (h : TreeOk C t ps) (hns : t.ns = ps.map (·.1)) (hg : ∀ p ∈ ps, p.1.good) (hge : ∀ p ∈ ps, ∀ e ∈ p.2, e.good) : TreeX t ps := by
  refine ⟨hns, fun n hn => ?_, fun p hp x hx => ?_, h.1⟩
  · rw [hns] at hn
    obtain ⟨p, hp, rfl⟩ := List.mem_map.1 hn
    obtain ⟨j, hj, rfl⟩ := List.getElem_of_mem hp
    have hN := h.2.2.2 j hj
    refine ⟨hN.1, (hg _ hp).1, fun h5 => ?_⟩
    have ho := hN.2.2.2.2.2.2.2.2.2.2 (by omega)
    exact targetSt_short (ho.2.2.2.2.2.2.2.1 h5).1
  · obtain ⟨j, hj, rfl⟩ := List.getElem_of_mem hp
    have hN := h.2.2.2 j hj
    by_cases h2 : ps[j].1.attr.type = 2
    · have hd := hN.2.2.2.2.2.2.2.2.2.1 h2
      obtain ⟨i, hi, rfl⟩ := List.getElem_of_mem hx
      obtain ⟨e1, e2, e3, e4, -, e5, -⟩ := hd.2.1 i hi
      exact ⟨e1, e2, nameSt_short e5, e3, e4, hge _ hp _ hx⟩
    · have ho := hN.2.2.2.2.2.2.2.2.2.2 h2
      rw [ho.1] at hx
      cases hx
end Go.Proofs.YtgifmpobokaejaaGreatDoor


/-
  Layer 22, plain: what is read of a tree that may be are results that may be. Conditions: what a tree has.
-/
namespace Go.Proofs.YtgifmpobokaejaaGreatDoor
open Go.RowKit

theorem All8.zero (L : List UInt8) (s : Int) (hs : pKnown s = true) (hL : ¬ (inL L 108 = true ∧ inL L 112 = true)) : All8 L (statD s) := zero_ok L s hs hL
theorem ne_beq {s : Int} (h : s ≠ 0) : (s == 0) = false := by simpa using h
theorem nameSt_known {l : List UInt8} (h : nameSt l ≠ 0) : pKnown (nameSt l) = true := by
  unfold nameSt at h ⊢
  split
  · rfl
  · split
    · rfl
    · rename_i h1 h2
      rw [if_neg h1, if_neg h2] at h
      exact absurd rfl h
theorem fileSt_known (n : Nd) (u : Cred) (k : Int) : fileSt n u k = 0 ∨ (fileSt n u k ≠ 0 ∧ pKnown (fileSt n u k) = true) := by
  unfold fileSt
  repeat' split
  · exact .inr ⟨by decide, rfl⟩
  · exact .inr ⟨by decide, rfl⟩
  · exact .inl rfl
  · exact .inr ⟨by decide, rfl⟩
theorem NodeX.at_ {t : Tr} {ps : List (Nd × List Entry)} (hX : TreeX t ps) {g : Int} (h : ¬ placeOf t.ns g < 0) : NodeX (nodeAt t.ns (placeOf t.ns g)) := by
  obtain ⟨k, -, hk, e, -⟩ := placeOf_at h
  rw [e]
  exact hX.node _ (List.getElem_mem hk)
section
variable {t : Tr} {ps : List (Nd × List Entry)} {n : Nd} {es : List Entry}
theorem told3 (hX : TreeX t ps) (hn : NodeX n) (u : Cred) (c : Call) (hg : ∀ x ∈ es, x.gen ≤ 9223372036854775807) : All8 (pFields 3 ((lookupR t.ns u c n es).status == 0)) ⟨{ (lookupR t.ns u c n es).bare with dir := postN n }, [], []⟩ := by
  unfold lookupR
  split
  · exact (All8.zero [68] 20 rfl (by decide)).dir hn (by decide)
  · split
    · rename_i h
      rw [show ((statR (nameSt c.name)).status == 0) = false from ne_beq h]
      exact (All8.zero [68] (nameSt c.name) (nameSt_known h) (by decide)).dir hn (by decide)
    · split
      · exact (All8.zero [68] 13 rfl (by decide)).dir hn (by decide)
      · split
        · exact (All8.zero [68] 2 rfl (by decide)).dir hn (by decide)
        · rename_i h
          have hp : ¬ placeOf t.ns (findGen es c.name).1 < 0 := fun h2 => h (.inr h2)
          have hgl : (findGen es c.name).1 ≤ 9223372036854775807 := by
            unfold findGen
            split
            · rename_i x hx
              exact hg x (List.mem_of_getElem? hx)
            · show (0 : Int) ≤ _
              decide
          exact (((All8.zero [104, 97, 68] 0 rfl (by decide)).fh (genText (findGen es c.name).1) (Nat.le_trans (genText_short hgl) (by omega)) (by decide)).obj (NodeX.at_ hX hp) (by decide)).dir hn (by decide)
theorem told4 (hn : NodeX n) (u : Cred) (c : Call) : All8 (pFields 4 true) ⟨{ ({ replyZ with access := accP n.attr u.uid u.gid c.how } : Reply).bare with obj := postN n }, [], []⟩ := by
  have h := accP_small n.attr u.uid u.gid c.how
  exact ((All8.zero [97, 120] 0 rfl (by decide)).access (accP n.attr u.uid u.gid c.how) h.1 (by omega) (by decide)).obj hn (by decide)
theorem told5 (hn : NodeX n) : All8 (pFields 5 ((linkR n).status == 0)) ⟨{ (linkR n).bare with obj := postN n }, [], []⟩ := by
  unfold linkR
  split
  · rename_i h
    exact ((All8.zero [97, 100] 0 rfl (by decide)).data (dataL n) false (Nat.le_trans (hn.link h) (by omega)) (by decide) (.inr rfl)).obj hn (by decide)
  · exact (All8.zero [97] 22 rfl (by decide)).obj hn (by decide)
theorem told6 (hn : NodeX n) (u : Cred) (c : Call) : All8 (pFields 6 ((readR n u c).status == 0)) ⟨{ (readR n u c).bare with obj := postN n }, [], []⟩ := by
  unfold readR
  split
  · exact ((All8.zero [97, 101, 100] 0 rfl (by decide)).data (nRead (dataL n) c.offset c.count).1 (nRead (dataL n) c.offset c.count).2 (nRead_short _ _ _) (by decide) (.inl (by decide))).obj hn (by decide)
  · rename_i h
    rcases fileSt_known n u 4 with h2 | ⟨h2, h3⟩
    · exact absurd h2 h
    · rw [show ((statR (fileSt n u 4)).status == 0) = false from ne_beq h2]
      exact (All8.zero [97] (fileSt n u 4) h3 (by decide)).obj hn (by decide)
theorem told21 (hn : NodeX n) (u : Cred) : All8 (pFields 21 ((commitR n u).status == 0)) ⟨{ (commitR n u).bare with wcc := ⟨⟨true, n.attr.change⟩, postN n⟩ }, [], []⟩ := by
  unfold commitR
  split
  · exact ((All8.zero [119, 118] 0 rfl (by decide)).verf 1 (by decide) (by decide) (by decide)).wcc hn (by decide)
  · rename_i h
    rcases fileSt_known n u 2 with h2 | ⟨h2, h3⟩
    · exact absurd h2 h
    · rw [show ((statR (fileSt n u 2)).status == 0) = false from ne_beq h2]
      exact (All8.zero [119] (fileSt n u 2) h3 (by decide)).wcc hn (by decide)
theorem toldNums (hn : NodeX n) (us : List Int) (hl : us.length ≤ 16) (hu : ∀ v ∈ us, 0 ≤ v ∧ v ≤ 9223372036854775807) : All8 [97, 110] ⟨{ fldsZ with obj := postN n }, [], us⟩ :=
  ((All8.zero [97, 110] 0 rfl (by decide)).nums us hl hu (by decide)).obj hn (by decide)
theorem nums_ok (hlim : t.lim.ok = true) (u : Int) : ∀ v ∈ nums t u, 0 ≤ v ∧ v ≤ 9223372036854775807 := by
  have h := hlim
  rw [Lim.ok_iff, decide_eq_true_eq] at h
  have hf : 0 ≤ free t ∧ free t ≤ 1073741824 := by unfold free; omega
  have hlf : 0 ≤ left t u ∧ left t u ≤ 1073741824 := by
    unfold left
    split
    · exact hf
    · omega
  intro v hv
  unfold nums at hv
  simp only [List.mem_cons, List.not_mem_nil, or_false] at hv
  rcases hv with rfl | rfl | rfl | rfl | rfl | rfl <;> omega
/-- a page's entries, plain or with what is told of their nodes -/
theorem page_ok (hX : TreeX t ps) (hp : (n, es) ∈ ps) (ck count : Int) (hc : count ≤ 1024) (plus : Bool) (more : Int) (hm : more = if plus then 96 else 0) :
    EntsRep (!plus) plus (if plus then (pageF es ck count more).1.map (fillE t.ns) else (pageF es ck count more).1) ∧ (∀ x ∈ (if plus then (pageF es ck count more).1.map (fillE t.ns) else (pageF es ck count more).1), x.good) ∧
      ((if plus then (pageF es ck count more).1.map (fillE t.ns) else (pageF es ck count more).1).flatMap (entB plus)).length ≤ 1024 := by
  have hm0 : 0 ≤ more := by rw [hm]; cases plus <;> decide
  obtain ⟨l, hl⟩ : ∃ l, l = (pageF es ck count more).1 := ⟨_, rfl⟩
  have hsub : ∀ x ∈ l, x ∈ es := fun x hx => by
    rw [hl] at hx
    unfold pageF at hx
    split at hx
    · cases hx
    · exact (List.mem_filter.1 (List.mem_of_mem_take hx)).1
  have hcost : costs more l ≤ 1024 := by
    rw [hl]
    unfold pageF
    split
    · show (0 : Int) ≤ 1024
      decide
    · have := pageN_costs more hm0 (behind ck es) count
      show costs more ((behind ck es).take (pageN (behind ck es) count more)) ≤ 1024
      omega
  have hlen := costs_len more hm0 l
  have hent := fun x hx => hX.ents _ hp x (hsub x hx)
  have hfe : ∀ x ∈ l, (fillE t.ns x).fh.length ≤ 19 ∧ (fillE t.ns x).attr.ok = true ∧ (fillE t.ns x).good ∧ (fillE t.ns x).gen = x.gen ∧ (fillE t.ns x).cookie = x.cookie ∧ (fillE t.ns x).name = x.name := fun x hx => by
    obtain ⟨h1, h2, h3, h4, h5, h6⟩ := hent x hx
    unfold fillE
    split
    · exact ⟨by rw [h4]; exact Nat.zero_le _, by rw [h5]; rfl, h6, rfl, rfl, rfl⟩
    · rename_i hpl
      have hN := NodeX.at_ hX hpl
      have hgl : x.gen ≤ 9223372036854775807 := (Go.bounds_i64 h6.1).2
      have hgs := genText_short hgl
      exact ⟨hgs, postN_ok hN, ⟨h6.1, h6.2.1, h6.2.2.1, hN.good, Nat.le_trans hgs (by unfold maxLen; omega)⟩, rfl, rfl, rfl⟩
  rw [← hl]
  cases plus
  case false =>
    simp only [Bool.false_eq_true, if_false, Bool.not_false]
    rw [if_neg (by decide)] at hm
    refine ⟨.inl ⟨rfl, rfl, by omega, fun x hx => ?_⟩, fun x hx => (hent x hx).2.2.2.2.2, ?_⟩
    · obtain ⟨h1, h2, h3, h4, h5, h6⟩ := hent x hx
      exact ⟨by omega, by omega, by omega, by rw [h4]; exact Nat.zero_le _, by rw [h5]; rfl, fun _ => ⟨h4, h5⟩⟩
    · have := costs_bytes false more id l (fun x _ => by rw [hm]; exact entB_plain x)
      rw [List.map_id] at this
      omega
  case true =>
    simp only [if_true, Bool.not_true]
    rw [if_pos rfl] at hm
    refine ⟨.inr (.inl ⟨rfl, rfl, by rw [List.length_map]; omega, fun y hy => ?_⟩), fun y hy => ?_, ?_⟩
    · obtain ⟨x, hx, rfl⟩ := List.mem_map.1 hy
      obtain ⟨h1, h2, h3, h4, h5, h6⟩ := hent x hx
      obtain ⟨f1, f2, f3, f4, f5, f6⟩ := hfe x hx
      exact ⟨by rw [f4]; omega, by rw [f5]; omega, by rw [f6]; omega, by omega, f2, (fun h => by cases h)⟩
    · obtain ⟨x, hx, rfl⟩ := List.mem_map.1 hy
      exact (hfe x hx).2.2.1
    · have := costs_bytes true more (fillE t.ns) l (fun x hx => by
        have h1 := entB_whole (fillE t.ns x) (hfe x hx).1
        rw [(hfe x hx).2.2.2.2.2] at h1
        rw [hm]
        exact h1)
      omega
theorem toldList (hX : TreeX t ps) (hn : NodeX n) (hp : (n, es) ∈ ps) (u : Cred) (c : Call) (plus : Bool) (p : Int) (hpp : p = if plus then 17 else 16) :
    All8 (pFields p ((listR t.ns u c n es plus).f.status == 0)) { listR t.ns u c n es plus with f := { (listR t.ns u c n es plus).f with obj := postN n } } := by
  have hfail : ∀ s, pKnown s = true → s ≠ 0 → All8 (pFields p ((statD s).f.status == 0)) { statD s with f := { (statD s).f with obj := postN n } } := fun s h1 h2 => by
    rw [show ((statD s).f.status == 0) = false from ne_beq h2]
    have e : pFields p false = [97] := by rw [hpp]; cases plus <;> rfl
    rw [e]
    exact (All8.zero [97] s h1 (by decide)).obj hn (by decide)
  have hpg := page_ok hX hp c.cookie (min c.count 1024) (by omega) plus (if plus then 96 else 0) rfl
  have hst : (pageF es c.cookie (min c.count 1024) (if plus then 96 else 0)).2.2 = 0 ∨ (pageF es c.cookie (min c.count 1024) (if plus then 96 else 0)).2.2 = 10005 := by
    generalize (if plus then (96 : Int) else 0) = more
    unfold pageF
    split
    · exact .inr rfl
    · exact .inl rfl
  have hgn := attr_pos hn.ok
  have hgb := (Go.bounds_i64 hn.good.2.2.2.2.2.2.2.1).2
  unfold listR
  generalize (if plus then (pageF es c.cookie (min c.count 1024) (if plus then 96 else 0)).1.map (fillE t.ns) else (pageF es c.cookie (min c.count 1024) (if plus then 96 else 0)).1) = l at *
  generalize (pageF es c.cookie (min c.count 1024) (if plus then 96 else 0)).2.1 = eo at *
  generalize (pageF es c.cookie (min c.count 1024) (if plus then 96 else 0)).2.2 = st at *
  by_cases q1 : n.attr.type ≠ 2
  · rw [if_pos q1]
    exact hfail 20 rfl (by decide)
  rw [if_neg q1]
  by_cases q2 : mayB (bitsP n.attr u.uid u.gid) 4 = false
  · rw [if_pos q2]
    exact hfail 13 rfl (by decide)
  rw [if_neg q2]
  by_cases q3 : c.cookie ≠ 0 ∧ c.verf ≠ n.attr.gen
  · rw [if_pos q3]
    exact hfail 10003 rfl (by decide)
  rw [if_neg q3]
  rcases hst with hst | hst
  · rw [if_neg (fun h => h hst)]
    cases plus
    · rw [if_neg (by decide)] at hpp
      rw [hpp]
      exact ((((All8.zero [97, 118, 108, 101] 0 rfl (by decide)).verf n.attr.gen hgn.1 hgb (by decide)).eof eo (by decide)).ents l hpg.1 hpg.2.1 ⟨fun _ => hpg.2.2, fun h => absurd h (by decide)⟩).obj hn (by decide)
    · rw [if_pos rfl] at hpp
      rw [hpp]
      exact ((((All8.zero [97, 118, 112, 101] 0 rfl (by decide)).verf n.attr.gen hgn.1 hgb (by decide)).eof eo (by decide)).ents l hpg.1 hpg.2.1 ⟨fun h => absurd h (by decide), fun _ => hpg.2.2⟩).obj hn (by decide)
  · rw [if_pos (by rw [hst]; decide), hst]
    exact hfail 10005 rfl (by decide)
/-- whatever is read of a node -/
theorem told_all (hX : TreeX t ps) (hp : (n, es) ∈ ps) (u : Cred) (c : Call) (hr : c.proc = 1 ∨ c.proc = 3 ∨ c.proc = 4 ∨ c.proc = 5 ∨ c.proc = 6 ∨ c.proc = 16 ∨ c.proc = 17 ∨ c.proc = 18 ∨ c.proc = 19 ∨ c.proc = 20 ∨ c.proc = 21) :
    All8 (pFields c.proc ((toldR c.proc n (askR t u c n es)).f.status == 0)) (toldR c.proc n (askR t u c n es)) := by
  have hn : NodeX n := hX.node n (by rw [hX.ns]; exact List.mem_map_of_mem hp)
  have hg : ∀ x ∈ es, x.gen ≤ 9223372036854775807 := fun x hx => (Go.bounds_i64 (hX.ents _ hp x hx).2.2.2.2.2.1).2
  unfold toldR askR
  rcases hr with h | h | h | h | h | h | h | h | h | h | h
  all_goals
    rw [h]
  · exact (All8.zero [97] 0 rfl (by decide)).obj hn (by decide)
  · exact told3 hX hn u c hg
  · exact told4 hn u c
  · exact told5 hn
  · exact told6 hn u c
  · exact toldList hX hn hp u c false 16 rfl
  · exact toldList hX hn hp u c true 17 rfl
  · exact toldNums hn (nums t u.uid) (by show 6 ≤ 16; decide) (nums_ok hX.lim u.uid)
  · exact toldNums hn [256, 256, 1024, 1024] (by decide) (by decide)
  · exact toldNums hn [8, 24, 48] (by decide) (by decide)
  · exact told21 hn u
theorem fnOf_reads {p : Int} (h : fnOf p ≠ none) (h0 : p ≠ 0) : p = 1 ∨ p = 3 ∨ p = 4 ∨ p = 5 ∨ p = 6 ∨ p = 16 ∨ p = 17 ∨ p = 18 ∨ p = 19 ∨ p = 20 ∨ p = 21 := by
  unfold fnOf at h
  repeat' (split at h)
  all_goals first | omega | exact absurd rfl h
/-- whatever is read -/
theorem doR_ok (hX : TreeX t ps) (u : Cred) (c : Call) (hd : (doR t ps u c).2 = true) : All8 (pFields c.proc ((doR t ps u c).1.f.status == 0)) (doR t ps u c).1 := by
  unfold doR at hd ⊢
  by_cases h0 : c.proc = 0
  · rw [if_pos h0, h0]
    exact All8.zero [] 0 rfl (by decide)
  rw [if_neg h0] at hd ⊢
  by_cases h1 : fnOf c.proc = none
  · rw [if_pos h1] at hd
    cases hd
  rw [if_neg h1] at hd ⊢
  have hr := fnOf_reads h1 h0
  by_cases h2 : (atP t.ns c.fh).2 ≠ 0
  · rw [if_pos h2]
    have hk : pKnown (atP t.ns c.fh).2 = true := by
      unfold atP
      repeat' split
      all_goals rfl
    show All8 (pFields c.proc ((statD (atP t.ns c.fh).2).f.status == 0)) (statD (atP t.ns c.fh).2)
    refine All8.zero _ _ hk ?_
    rw [show ((statD (atP t.ns c.fh).2).f.status == 0) = false from ne_beq h2]
    rcases hr with h | h | h | h | h | h | h | h | h | h | h
    all_goals
      rw [h]
      decide
  rw [if_neg h2]
  have hlt : (atP t.ns c.fh).1.toNat < ps.length := by
    unfold atP at h2 ⊢
    split at h2
    · exact absurd (by decide) h2
    · split at h2
      · exact absurd (by decide) h2
      · rename_i h3 h4
        rw [if_neg h3, if_neg h4]
        obtain ⟨k, e, hk, -, -⟩ := placeOf_at h4
        rw [hX.ns, List.length_map] at hk
        show (placeOf t.ns (genOf c.fh)).toNat < ps.length
        rw [e]
        omega
  have hm : ps.getD (atP t.ns c.fh).1.toNat (ndZ, []) ∈ ps := by
    rw [List.getD_eq_getElem?_getD, List.getElem?_eq_getElem hlt]
    exact List.getElem_mem hlt
  generalize ps.getD (atP t.ns c.fh).1.toNat (ndZ, []) = q at *
  exact told_all hX hm u c hr
/-- what is not read tells nothing -/
theorem doR_not {t : Tr} {ps : List (Nd × List Entry)} {u : Cred} {c : Call} (h : (doR t ps u c).2 = false) : (doR t ps u c).1 = ⟨fldsZ, [], []⟩ ∧ c.proc ≠ 0 ∧ fnOf c.proc = none := by
  unfold doR at h ⊢
  by_cases h0 : c.proc = 0
  · rw [if_pos h0] at h
    cases h
  rw [if_neg h0] at h ⊢
  by_cases h1 : fnOf c.proc = none
  · rw [if_pos h1]
    exact ⟨rfl, h0, h1⟩
  rw [if_neg h1] at h
  by_cases h2 : (atP t.ns c.fh).2 ≠ 0
  · rw [if_pos h2] at h
    cases h
  · rw [if_neg h2] at h
    cases h
end
end Go.Proofs.YtgifmpobokaejaaGreatDoor
