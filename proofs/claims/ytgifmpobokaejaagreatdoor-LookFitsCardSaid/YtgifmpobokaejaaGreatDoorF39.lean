/-
  Layer 22, plain: which entries, nodes and trees may be. No condition.
-/
import Derived.Test.YtgifmpobokaejaaGreatDoorF34
import Derived.Test.YtgifmpobokaejaaGreatDoorF31
import Derived.Test.YtgifmpobokaejaaGreatDoorF37
import Derived.Test.YtgifmpobokaejaaGreatDoorF13
namespace Go.Proofs.YtgifmpobokaejaaGreatDoor
open Go.RowKit

/-- may an entry be at its place? -/
def EntAt (l : List Entry) (k : Nat) (hk : k < l.length) : Prop :=
  1 ≤ l[k].gen ∧ 1 ≤ l[k].cookie ∧ l[k].fh = [] ∧ l[k].attr = postZ8 ∧ findName l l[k].name = (k : Int) ∧ nameSt l[k].name = 0 ∧ (0 < k → (l[k - 1]'(Nat.lt_of_le_of_lt (Nat.sub_le _ _) hk)).cookie < l[k].cookie)
def EntsK (l : List Entry) (k : Nat) : Prop := ∀ (j : Nat) (hj : j < l.length), j < k → EntAt l j hj
/-- may entries be? -/
def EntsOk (l : List Entry) : Prop := ∀ (j : Nat) (hj : j < l.length), EntAt l j hj
theorem EntsK.zero (l : List Entry) : EntsK l 0 := fun _ _ h => absurd h (Nat.not_lt_zero _)
theorem EntsK.next {l : List Entry} {k : Nat} (h : EntsK l k) (hk : k < l.length) (hn : EntAt l k hk) : EntsK l (k + 1) := fun j hj hjk => by
  rcases Nat.lt_or_ge j k with h1 | h1
  · exact h j hj h1
  · obtain rfl : j = k := by omega
    exact hn
theorem EntsK.all {l : List Entry} (h : EntsK l l.length) : EntsOk l := fun j hj => h j hj hj
/-- the same, of letters -/
def CondE (x : Entry) (F N : Int) (k : Nat) (pc : Int) : Prop := 1 ≤ x.gen ∧ 1 ≤ x.cookie ∧ x.fh = [] ∧ x.attr = postZ8 ∧ F = (k : Int) ∧ N = 0 ∧ (0 < k → pc < x.cookie)
theorem EntsOk.good {l : List Entry} (h : EntsOk l) : goodL l :=
  ⟨fun x hx => by
    obtain ⟨i, hi, rfl⟩ := List.getElem_of_mem hx
    exact ⟨(h i hi).2.1, nameSt_short (h i hi).2.2.2.2.2.1⟩, fun i hi => by
    have := (h (i + 1) hi).2.2.2.2.2.2 (Nat.succ_pos i)
    exact this⟩
/-- a bool comes back, that tells whether something is so -/
def TellsP (P : Prop) (w : World) (e : Ending) (w' : World) : Prop := ∃ b, e = .returned (.bool b) ∧ (b = true ↔ P) ∧ Below w.heap.size w w'
theorem TellsP.no {P : Prop} {w w' : World} (hn : ¬ P) (hb : Below w.heap.size w w') : TellsP P w (.returned (.bool false)) w' := ⟨false, rfl, ⟨(fun h => by cases h), fun h => absurd h hn⟩, hb⟩
theorem TellsP.yes {P : Prop} {w w' : World} (h : P) (hb : Below w.heap.size w w') : TellsP P w (.returned (.bool true)) w' := ⟨true, rfl, ⟨fun _ => h, fun _ => rfl⟩, hb⟩
theorem TellsP.is {P : Prop} {b : Bool} {w w' : World} (h : b = true ↔ P) (hb : Below w.heap.size w w') : TellsP P w (.returned (.bool b)) w' := ⟨b, rfl, h, hb⟩

/-- how many of a directory's entries name a node, beside those ahead -/
def namedE (g d : Int) : List Entry → Int × Int → Int × Int
  | [], a => a
  | x :: l, a => namedE g d l (if x.gen = g then (a.1 + 1, d) else a)
def namedF (g : Int) : List (Nd × List Entry) → Int × Int → Int × Int
  | [], a => a
  | p :: l, a => namedF g l (namedE g p.1.attr.gen p.2 a)
/-- how many entries name a node, and the directory of the last one -/
def named (ps : List (Nd × List Entry)) (g : Int) : Int × Int := namedF g ps (0, 0)
theorem namedE_le (g d : Int) : ∀ (l : List Entry) (a : Int × Int), a.1 ≤ (namedE g d l a).1 ∧ (namedE g d l a).1 ≤ a.1 + l.length
  | [], a => by simp [namedE]
  | x :: l, a => by
    have h := namedE_le g d l (if x.gen = g then (a.1 + 1, d) else a)
    rw [namedE, List.length_cons]
    split at h
    · rename_i hx
      rw [if_pos hx]
      simp only at h
      omega
    · rename_i hx
      rw [if_neg hx]
      omega
/-- how many links a directory has -/
def linksK (ns : List Nd) : List Entry → Int → Int
  | [], a => a
  | x :: l, a => linksK ns l (if (nodeAt ns (placeOf ns x.gen)).attr.type = 2 then a + 1 else a)
def linksOf (ns : List Nd) (es : List Entry) : Int := linksK ns es 2
/-- may a directory be? (C: whether it comes to the root) -/
def DirOk (C : Nd → Prop) (ps : List (Nd × List Entry)) (ns : List Nd) (n : Nd) (es : List Entry) : Prop :=
  (∀ x ∈ es, 1 ≤ placeOf ns x.gen ∧ x.cookie ≤ n.last) ∧ EntsOk es ∧ n.attr.nlink = linksOf ns es ∧ n.data.size = 0 ∧ n.verf = 0 ∧ (n.attr.gen = 1 → n.parent = 1) ∧ (n.attr.gen ≠ 1 → (named ps n.attr.gen).1 = 1 ∧ (named ps n.attr.gen).2 = n.parent ∧ C n)
/-- may what is no directory be? -/
def OthOk (ps : List (Nd × List Entry)) (n : Nd) (es : List Entry) : Prop :=
  es = [] ∧ n.parent = 0 ∧ n.last = 0 ∧ n.attr.nlink = (named ps n.attr.gen).1 ∧ 1 ≤ (named ps n.attr.gen).1 ∧ (named ps n.attr.gen).1 ≤ 8 ∧
  (n.attr.type = 1 → n.data.size ≤ 1024 ∧ 0 ≤ n.verf) ∧ (n.attr.type = 5 → targetSt n.data.data.toList = 0 ∧ n.verf = 0) ∧ (n.attr.type ≠ 1 → n.attr.type ≠ 5 → n.data.size = 0 ∧ n.verf = 0)
/-- may a node be at its place? -/
def NodOk (C : Nd → Prop) (t : Tr) (ps : List (Nd × List Entry)) (k : Nat) (n : Nd) (es : List Entry) : Prop :=
  n.attr.ok = true ∧ 1 ≤ n.attr.id ∧ 1 ≤ n.attr.gen ∧ n.attr.gen ≤ t.gens ∧ n.attr.change ≤ t.now ∧ n.attr.size = (n.data.size : Int) ∧ (k = 0 → n.attr.gen = 1 ∧ n.attr.type = 2) ∧
  (0 < k → (t.ns.getD (k - 1) ndZ).attr.gen < n.attr.gen) ∧ (∀ j, j < k → (t.ns.getD j ndZ).attr.id ≠ n.attr.id) ∧ (n.attr.type = 2 → DirOk C ps t.ns n es) ∧ (n.attr.type ≠ 2 → OthOk ps n es)
def NodsK (C : Nd → Prop) (t : Tr) (ps : List (Nd × List Entry)) (k : Nat) : Prop := ∀ (j : Nat) (hj : j < ps.length), j < k → NodOk C t ps j ps[j].1 ps[j].2
/-- may a tree be? -/
def TreeOk (C : Nd → Prop) (t : Tr) (ps : List (Nd × List Entry)) : Prop := t.lim.ok = true ∧ 1 ≤ t.ns.length ∧ (t.ns.length : Int) ≤ t.lim.nodes ∧ ∀ (j : Nat) (hj : j < ps.length), NodOk C t ps j ps[j].1 ps[j].2
theorem NodsK.zero {C : Nd → Prop} {t : Tr} {ps : List (Nd × List Entry)} : NodsK C t ps 0 := fun _ _ h => absurd h (Nat.not_lt_zero _)
theorem NodsK.next {C : Nd → Prop} {t : Tr} {ps : List (Nd × List Entry)} {k : Nat} (h : NodsK C t ps k) (hk : k < ps.length) (hn : NodOk C t ps k ps[k].1 ps[k].2) : NodsK C t ps (k + 1) := fun j hj hjk => by
  rcases Nat.lt_or_ge j k with h1 | h1
  · exact h j hj h1
  · obtain rfl : j = k := by omega
    exact hn
/-- by the document, and by the program -/
def comesD (ns : List Nd) (n : Nd) : Prop := comesR ns ns.length n.parent = true
def comesG (ns : List Nd) (n : Nd) : Prop := comesP ns ns.length n = true
theorem placeOf_first {ns : List Nd} (h : 0 < ns.length) (hg : (ns[0]).attr.gen = 1) : ¬ placeOf ns 1 < 0 := by
  intro hlt
  cases ns with
  | nil => exact absurd h (Nat.lt_irrefl _)
  | cons n l =>
    change n.attr.gen = 1 at hg
    have e : List.findIdx? (fun n : Nd => n.attr.gen == 1) (n :: l) = some 0 := by simp [List.findIdx?_cons, hg]
    unfold placeOf findI at hlt
    rw [e] at hlt
    exact absurd (show ((0 : Nat) : Int) < 0 from hlt) (by decide)
theorem comes_iff {t : Tr} {ps : List (Nd × List Entry)} (hns : t.ns = ps.map (·.1)) (h0 : 0 < ps.length) (hg0 : ps[0].1.attr.gen = 1) {k : Nat} (hk : k < ps.length) (hg : ps[k].1.attr.gen ≠ 1) : comesG t.ns ps[k].1 ↔ comesD t.ns ps[k].1 := by
  unfold comesG comesD
  have hl : 0 < t.ns.length := by rw [hns, List.length_map]; exact h0
  have he : (t.ns[0]).attr.gen = 1 := by simp only [hns, List.getElem_map]; exact hg0
  rw [comes_same (placeOf_first hl he) (by rw [hns]; exact List.mem_map_of_mem (List.getElem_mem hk)) hg]
theorem DirOk.turn {C D : Nd → Prop} {ps : List (Nd × List Entry)} {ns : List Nd} {n : Nd} {es : List Entry} (hCD : n.attr.gen ≠ 1 → C n → D n) (h : DirOk C ps ns n es) : DirOk D ps ns n es :=
  ⟨h.1, h.2.1, h.2.2.1, h.2.2.2.1, h.2.2.2.2.1, h.2.2.2.2.2.1, fun hg => ⟨(h.2.2.2.2.2.2 hg).1, (h.2.2.2.2.2.2 hg).2.1, hCD hg (h.2.2.2.2.2.2 hg).2.2⟩⟩
theorem NodOk.turn {C D : Nd → Prop} {t : Tr} {ps : List (Nd × List Entry)} {k : Nat} {n : Nd} {es : List Entry} (hCD : n.attr.gen ≠ 1 → C n → D n) (h : NodOk C t ps k n es) : NodOk D t ps k n es :=
  ⟨h.1, h.2.1, h.2.2.1, h.2.2.2.1, h.2.2.2.2.1, h.2.2.2.2.2.1, h.2.2.2.2.2.2.1, h.2.2.2.2.2.2.2.1, h.2.2.2.2.2.2.2.2.1, fun h2 => (h.2.2.2.2.2.2.2.2.2.1 h2).turn hCD, h.2.2.2.2.2.2.2.2.2.2⟩
/-- both ask alike -/
theorem TreeOk.iff {t : Tr} {ps : List (Nd × List Entry)} (hns : t.ns = ps.map (·.1)) : TreeOk (comesG t.ns) t ps ↔ TreeOk (comesD t.ns) t ps := by
  have hl : t.ns.length = ps.length := by rw [hns, List.length_map]
  constructor
  · intro h
    have h0 : 0 < ps.length := by have := h.2.1; omega
    have hg0 := ((h.2.2.2 0 h0).2.2.2.2.2.2.1 rfl).1
    exact ⟨h.1, h.2.1, h.2.2.1, fun j hj => (h.2.2.2 j hj).turn fun hg => (comes_iff hns h0 hg0 hj hg).1⟩
  · intro h
    have h0 : 0 < ps.length := by have := h.2.1; omega
    have hg0 := ((h.2.2.2 0 h0).2.2.2.2.2.2.1 rfl).1
    exact ⟨h.1, h.2.1, h.2.2.1, fun j hj => (h.2.2.2 j hj).turn fun hg => (comes_iff hns h0 hg0 hj hg).2⟩
end Go.Proofs.YtgifmpobokaejaaGreatDoor

/-
  Layer 22, walks: how many entries name a node, by the document, exact. Condition: a tree that is not too large.
-/
namespace Go.Proofs.YtgifmpobokaejaaGreatDoor
open Go.RowKit
open Go.RowKit
attribute [local go_sem ↓] Go.wp_at_zero Go.wp_at_succ
attribute [local go_sem] rowAt_ptr rowOf_drew rowOf_drewN rowOf_alloc_past rowOf_new
attribute [local go_sem ↓] ldNode22 ldTree22 ldAttrR ldEntry

theorem TreeH.rowAt2 {w : World} {t : Tr} {ps : List (Nd × List Entry)} (h : TreeH w t ps) {k : Nat} (hk : k < t.ns.length) : ∃ hk2 : k < ps.length, t.ns[k] = ps[k].1 ∧ ps[k].1.en = ps[k].2.length ∧ At w 15 ps[k].1.ea (ps[k].2.map Entry.vals) ∧ ps[k].2.length ≤ 70 := by
  have hns := h.ns
  have hkp : k < ps.length := by rw [hns, List.length_map] at hk; exact hk
  refine ⟨hkp, by simp only [hns, List.getElem_map], (h.ents _ (List.getElem_mem hkp)).1, (h.ents _ (List.getElem_mem hkp)).2, (h.rows _ (List.getElem_mem hkp)).1⟩
theorem namedF_at {g : Int} {ps : List (Nd × List Entry)} {k : Nat} (hk : k < ps.length) (a : Int × Int) : namedF g (ps.drop k) a = namedF g (ps.drop (k + 1)) (namedE g ps[k].1.attr.gen ps[k].2 a) := by
  rw [List.drop_eq_getElem_cons hk, namedF]
theorem namedE_at {g d : Int} {es : List Entry} {m : Nat} (hm : m < es.length) (a : Int × Int) : namedE g d (es.drop m) a = namedE g d (es.drop (m + 1)) (if es[m].gen = g then (a.1 + 1, d) else a) := by
  rw [List.drop_eq_getElem_cons hm, namedE]
theorem namedF_end {g : Int} {ps : List (Nd × List Entry)} {k : Nat} (hk : ps.length ≤ k) (a : Int × Int) : namedF g (ps.drop k) a = a := by
  rw [List.drop_of_length_le hk, namedF]
theorem namedE_end {g d : Int} {es : List Entry} {m : Nat} (hm : es.length ≤ m) (a : Int × Int) : namedE g d (es.drop m) a = a := by
  rw [List.drop_of_length_le hm, namedE]
/-- the number of names comes back -/
def NamedP (R : Int × Int) (w : World) (e : Ending) (w' : World) : Prop := e = .returned (.tuple #[.int .i64 R.1, .int .i64 R.2]) ∧ Below w.heap.size w w'
set_option maxRecDepth 20000 in
set_option maxHeartbeats 1600000 in
theorem refNamed_iff (t : Tr) (ps : List (Nd × List Entry)) (g : Int) (w : World) (hT : TreeH w t ps) :
    Calls Tryz.prog 68 #[t.val, .int .i64 g] w (NamedP (named ps g) w) := by
  have hX := Blk.new w 26 t.vals
  have hB : Below w.heap.size w (w.alloc (.cells t.vals.toArray 26)) := (Below.refl _ _).alloc (Nat.le_refl _) _
  obtain ⟨w1, hw1⟩ : ∃ V, V = w.alloc (.cells t.vals.toArray 26) := ⟨_, rfl⟩
  rw [← hw1] at hX hB
  have c5 : w1.cell? ⟨w.heap.size, 5, none⟩ = some (.slice t.na t.ns.length t.nc) := hX.cell 5
  have HW1 := Lib.hid hw1
  have HT := Lib.hid (hT.below hB)
  have HB := Lib.hid hB
  have hl := hT.len
  have hl70 := hT.few.1
  have hA1 := HT.out.at_
  have hlp : t.ns.length = ps.length := by rw [hT.ns, List.length_map]
  obtain ⟨R, hR⟩ : ∃ R, R = named ps g := ⟨_, rfl⟩
  have HR0 := Lib.hid (show namedF g (ps.drop 0) (0, 0) = R from hR.symm)
  rw [← hR]
  clear hw1 hX hT hB hR
  unfold Tr.val
  generalize hna : t.na = A at *
  have HR := Lib.hid (fun (k : Nat) (hk : k < t.ns.length) => HT.out.rowAt2 hk)
  generalize t.ns = ns at *
  have HLP := Lib.hid hlp
  go_enter Tryz.func68, Tryz.ntmps68
  go_upto_region 1 with fail
  change Code.wp _ _ _ _ (w.alloc (.cells t.vals.toArray 26))
  rw [← HW1.out]
  clear hna HT hlp
  go_wp2
  go_loopw [6, 7, 8] (fun a b i wr => ∃ (x y : Int) (k : Nat), a = .int .i64 x ∧ b = .int .i64 y ∧ k ≤ ns.length ∧ i = .int .i64 k ∧ 0 ≤ x ∧ x ≤ 70 * k ∧ namedF g (ps.drop k) (x, y) = R ∧ wr = w1) (fun _ _ i _ => ns.length - (intOf i).toNat)
  case atStart => exact ⟨0, 0, 0, rfl, rfl, Nat.zero_le _, rfl, by omega, by omega, HR0.out, rfl⟩
  case round =>
    obtain ⟨x, y, k, rfl, rfl, hk, rfl, hx0, hx1, hf, rfl⟩ := hrel
    have HF := Lib.hid hf
    clear hf
    by_cases hlt : k < ns.length
    · obtain ⟨hkp, hnp, hen, hE, h70⟩ := HR.out k hlt
      obtain ⟨b, off, rfl, hb, -, cc⟩ := rowCell8 Nd.len (by decide) hA1 hlt
      rw [hnp] at cc
      have c7 := cc 7 _ rfl
      have c14 := cc 14 _ rfl
      rw [hen] at c14
      have hk0 : (0 : Int) ≤ (k : Int) := Int.natCast_nonneg _
      have hk1 : (k : Int) < (ns.length : Int) := by omega
      have hiw : IntKind.i64.wrap ((k : Int) + 1) = ((k + 1 : Nat) : Int) := by rw [IntWalk.i64_in _ (by omega)]; omega
      have HF2 := Lib.hid (show namedF g (ps.drop (k + 1)) (namedE g ps[k].1.attr.gen (ps[k].2.drop 0) (x, y)) = R by rw [List.drop_zero, ← namedF_at hkp]; exact HF.out)
      generalize ps[k].2 = es at *
      have hd7 : Value.int .i64 (ps[k].1.attr.gen) = Value.int .i64 (ps[k].1.attr.gen) := rfl
      change World.cell? _ _ = some (Value.int .i64 (ps[k].1.attr.gen)) at c7
      generalize ps[k].1.attr.gen = d at *
      clear cc hnp hen hd7 HF
      go_wp2
      go_loopw [6, 7, 10] (fun a b j V => ∃ (x y : Int) (m : Nat), a = .int .i64 x ∧ b = .int .i64 y ∧ m ≤ es.length ∧ j = .int .i64 m ∧ 0 ≤ x ∧ x ≤ 70 * k + m ∧ namedF g (ps.drop (k + 1)) (namedE g d (es.drop m) (x, y)) = R ∧ V = wr) (fun _ _ j _ => es.length - (intOf j).toNat)
      case atStart => exact ⟨x, y, 0, rfl, rfl, Nat.zero_le _, rfl, by omega, by omega, HF2.out, rfl⟩
      case round =>
        obtain ⟨x, y, m, rfl, rfl, hm, rfl, hx0, hx1, hf, rfl⟩ := hrel
        have HF := Lib.hid hf
        clear hf HF2
        by_cases hlm : m < es.length
        · obtain ⟨be, oe, hea, hbe, -, ce⟩ := rowCell8 Entry.len (by decide) hE hlm
          rw [hea] at c14
          have c0 : World.cell? _ ⟨be, oe + m * 15, none⟩ = some (.int .i64 es[m].gen) := ce 0 _ rfl
          have hm0 : (0 : Int) ≤ (m : Int) := Int.natCast_nonneg _
          have hm1 : (m : Int) < (es.length : Int) := by omega
          have him : IntKind.i64.wrap ((m : Int) + 1) = ((m + 1 : Nat) : Int) := by rw [IntWalk.i64_in _ (by omega)]; omega
          have hxw : IntKind.i64.wrap (x + 1) = x + 1 := IntWalk.i64_in _ (by omega)
          rw [hea]
          by_cases hg : es[m].gen = g
          · have HN := Lib.hid (show namedF g (ps.drop (k + 1)) (namedE g d (es.drop (m + 1)) (x + 1, d)) = R by
              have h := HF.out
              rw [namedE_at hlm, if_pos hg] at h
              exact h)
            rw [hg] at c0
            clear ce hE
            go_wp2
            go_roundw
            case rel => exact ⟨_, _, m + 1, rfl, rfl, by omega, by first | rfl | go_num, by omega, by omega, HN.out, by first | rfl | trivial⟩
            case measure => simp [intOf]; omega
          · have hg2 : (es[m].gen == g) = false := by simpa using hg
            have HN := Lib.hid (show namedF g (ps.drop (k + 1)) (namedE g d (es.drop (m + 1)) (x, y)) = R by
              have h := HF.out
              rw [namedE_at hlm, if_neg hg] at h
              exact h)
            clear ce hE
            go_wp2
            go_roundw
            case rel => exact ⟨_, _, m + 1, rfl, rfl, by omega, by first | rfl | go_num, by omega, by omega, HN.out, by first | rfl | trivial⟩
            case measure => simp [intOf]; omega
        · obtain rfl : m = es.length := by omega
          have hlm : ¬ (es.length : Int) < (es.length : Int) := by omega
          have HN := Lib.hid (show namedF g (ps.drop (k + 1)) (x, y) = R by
            have h := HF.out
            rw [namedE_end (Nat.le_refl _)] at h
            exact h)
          clear hE
          go_wp2
          go_roundw
          case rel => exact ⟨_, _, k + 1, rfl, rfl, by omega, by first | rfl | go_num, by omega, by omega, HN.out, by first | rfl | trivial⟩
          case measure => simp [intOf]; omega
    · obtain rfl : k = ns.length := by omega
      have HN := Lib.hid (show (x, y) = R by
        have h := HF.out
        rw [namedF_end (by have := HLP.out; omega)] at h
        exact h)
      go_wp2
      go_ret2
      have e := HN.out
      subst e
      exact ⟨rfl, HB.out⟩
end Go.Proofs.YtgifmpobokaejaaGreatDoor


/-
  Layer 20, walks: the document's Check of entries, exact (written by wip/tools/gencheck20x.py). Conditions: machine lists.
-/
namespace Go.Proofs.YtgifmpobokaejaaGreatDoor
open Go.RowKit
attribute [local go_sem ↓] Go.wp_at_zero Go.wp_at_succ
attribute [local go_sem] rowAt_ptr rowOf_drew rowOf_drewN rowOf_alloc_past rowOf_new
attribute [local go_sem ↓] ldEntry

attribute [local go_sem ↓] ldPostQ

attribute [local go_sem] ldIf_some

attribute [local go_sem] Entry.at0 Entry.lat0 Entry.at1 Entry.lat1 Entry.at2 Entry.lat2 Entry.at3 Entry.lat3 Entry.at4 Entry.lat4 Entry.at5 Entry.lat5 Entry.at6 Entry.lat6 Entry.at7 Entry.lat7 Entry.at8 Entry.lat8 Entry.at9 Entry.lat9 Entry.at10 Entry.lat10 Entry.at11 Entry.lat11 Entry.at12 Entry.lat12 Entry.at13 Entry.lat13 Entry.at14 Entry.lat14 Entry.sub0_15 Entry.lsub0_15 Entry.sub3_11 Entry.lsub3_11 Entry.sub4_10 Entry.lsub4_10 Entry.len rowAt_ptr rowOf_drew rowOf_drewN

attribute [local go_sem ↓] neqPost20 neqPostZ20

attribute [local go_sem] guardPost20

set_option maxRecDepth 20000 in
set_option maxHeartbeats 6400000 in
theorem refCheck20_iff (A : Option Addr) (c : Nat) (l : List Entry) (w : World) (hl : l.length ≤ 70) (hn : ∀ x ∈ l, x.name.length ≤ 300) (hA : At w 15 A (l.map Entry.vals)) :
    Calls Tryz.prog 67 #[.slice A l.length c] w (TellsP (EntsOk l) w) := by
  go_enter Tryz.func67, Tryz.ntmps67
  go_wp2
  go_loopw [3] (fun i wr => ∃ k : Nat, k ≤ l.length ∧ i = .int .i64 k ∧ EntsK l k ∧ Below w.heap.size w wr) (fun i _ => l.length - (intOf i).toNat)
  case atStart => exact ⟨0, Nat.zero_le _, rfl, EntsK.zero _, Below.refl _ _⟩
  case round =>
    obtain ⟨k, hk, rfl, hG, hb⟩ := hrel
    by_cases hlk : k < l.length
    · have hAr := hA.below hb
      obtain ⟨b, off, rfl, hb1, r1, -⟩ := rowCell8 Entry.len (by omega) hAr hlk
      have hZ := Blk.new wr 80 l[k].vals
      have hba : Below wr.heap.size wr (wr.alloc (.cells l[k].vals.toArray 80)) := (Below.refl _ _).alloc (Nat.le_refl _) _
      have hA1 := hAr.below hba
      have hnk := hn l[k] (List.getElem_mem hlk)
      have hkp : k - 1 < l.length := by omega
      have hprev : ∀ (_ : 0 < k), (wr.alloc (.cells l[k].vals.toArray 80)).cell? ⟨b, off + (k - 1) * 15 + 2, none⟩ = some (.int .i64 (l[k - 1]'hkp).cookie) := fun h0 => by
        obtain ⟨b', o', e', -, -, hc'⟩ := rowCell8 Entry.len (by omega) hA1 (k := k - 1) (by omega)
        injection e' with e'
        injection e' with e1 e2 _
        subst e1 e2
        exact hc' 2 (.int .i64 (l[k - 1]'hkp).cookie) rfl
      have HIF := Lib.hid (fun (h : EntsOk l) => (show CondE l[k] (findName l l[k].name) (nameSt l[k].name) k (l[k - 1]'hkp).cookie from h k hlk))
      have HNX := Lib.hid (fun (h : CondE l[k] (findName l l[k].name) (nameSt l[k].name) k (l[k - 1]'hkp).cookie) => (show EntsK l (k + 1) from hG.next hlk h))
      have HB := Lib.hid (below_then hb hba)
      have KF : ∀ n, Calls Tryz.prog 99 #[.slice (some ⟨b, off, none⟩) l.length c, .string (bs l[k].name)] ((wr.alloc (.cells l[k].vals.toArray 80)).drewN n) fun e w' => e = .returned (.int .i64 (findName l l[k].name)) ∧ ∃ m, w' = ((wr.alloc (.cells l[k].vals.toArray 80)).drewN n).drewN m :=
        fun n => quiet20 (refFind20_any _ c l l[k].name _ (by omega) hA1)
      have KN : ∀ W, Calls Tryz.prog 100 #[.string (bs l[k].name)] W fun e w' => e = .returned (.int .i64 (nameSt l[k].name)) ∧ ∃ m, w' = W.drewN m := fun W => quiet20 (refCheck4_any l[k].name W (by omega))
      clear hG hb hA1 hAr hnk
      generalize findName l l[k].name = F at *
      generalize nameSt l[k].name = N at *
      have HLK := Lib.hid hlk
      have hk0 : (0 : Int) ≤ (k : Int) := Int.natCast_nonneg _
      have hk1 : (k : Int) < (l.length : Int) := by omega
      generalize (l[k - 1]'hkp).cookie = pc at *
      generalize l[k] = x at *
      obtain ⟨w1, hw1⟩ : ∃ u, u = wr.alloc (.cells x.vals.toArray 80) := ⟨_, rfl⟩
      have HW1 := Lib.hid hw1
      rw [← hw1] at hZ hprev KF HB
      clear hw1 hba
      go_upto_region 5 with (first | (refine wpList_new_struct (by rfl) (by rfl) 80 (by rfl) _ _ (by rfl) x.vals infoEntry2 (by rfl) (by rfl) (Entry.one _) (by rfl) (by rfl) ?_; rw [← HW1.out]) | fail)
      go_frame
      have f0 : w1.cell? ⟨wr.heap.size, 0, none⟩ = some (.int .i64 x.gen) := hZ.cell 0
      have f1 : w1.cell? ⟨wr.heap.size, 1, none⟩ = some (.string (bs x.name)) := hZ.cell 1
      have f2 : w1.cell? ⟨wr.heap.size, 2, none⟩ = some (.int .i64 x.cookie) := hZ.cell 2
      have f14 : w1.cell? ⟨wr.heap.size, 14, none⟩ = some (.string (bs x.fh)) := hZ.cell 14
      have f3 : rowOf w1 wr.heap.size 3 11 = some x.attr.vals.toArray := hZ.row 3 11 (by simp [Entry.len])
      clear hZ HW1 r1
      by_cases q0 : x.gen < 1
      · have d0 : decide (x.gen < 1) = true := decide_eq_true q0
        have HQ := Lib.hid (show ¬ EntsOk l from fun h => absurd (HIF.out h).1 (by omega))
        clear q0
        clear HIF HNX hprev hkp
        go_quiet (first
          | (go_at_call_of 99 (x.name); refine Calls.quiet_of (KF _))
          | (go_at_call_of 100 (x.name); refine Calls.quiet_of (KN _)))
        all_goals
          go_wp2
          go_ret
          exact TellsP.no HQ.out (bdN HB.out _)
      · have d0 : decide (x.gen < 1) = false := decide_eq_false q0
        by_cases q1 : x.cookie < 1
        · have d1 : decide (x.cookie < 1) = true := decide_eq_true q1
          have HQ := Lib.hid (show ¬ EntsOk l from fun h => absurd (HIF.out h).2.1 (by omega))
          clear q0 q1
          clear HIF HNX hprev hkp
          go_quiet (first
            | (go_at_call_of 99 (x.name); refine Calls.quiet_of (KF _))
            | (go_at_call_of 100 (x.name); refine Calls.quiet_of (KN _)))
          all_goals
            go_wp2
            go_ret
            exact TellsP.no HQ.out (bdN HB.out _)
        · have d1 : decide (x.cookie < 1) = false := decide_eq_false q1
          by_cases q2 : x.fh ≠ []
          · have d2 : (x.fh == []) = false := beq_false_of_ne q2
            have d2b : (x.fh != []) = true := by simpa using q2
            have HQ := Lib.hid (show ¬ EntsOk l from fun h => q2 (HIF.out h).2.2.1)
            clear q0 q1 q2
            clear HIF HNX hprev hkp
            go_quiet (first
              | (go_at_call_of 99 (x.name); refine Calls.quiet_of (KF _))
              | (go_at_call_of 100 (x.name); refine Calls.quiet_of (KN _)))
            all_goals
              go_wp2
              go_ret
              exact TellsP.no HQ.out (bdN HB.out _)
          · have d2 : (x.fh == []) = true := by simpa using q2
            have d2b : (x.fh != []) = false := by simpa using q2
            by_cases q3 : x.attr ≠ postZ8
            · have d3 : decide (x.attr ≠ postZ8) = true := decide_eq_true q3
              have HQ := Lib.hid (show ¬ EntsOk l from fun h => q3 (HIF.out h).2.2.2.1)
              clear q0 q1 q2 q3
              clear HIF HNX hprev hkp
              go_quiet (first
                | (go_at_call_of 99 (x.name); refine Calls.quiet_of (KF _))
                | (go_at_call_of 100 (x.name); refine Calls.quiet_of (KN _)))
              all_goals
                go_wp2
                go_ret
                exact TellsP.no HQ.out (bdN HB.out _)
            · have d3 : decide (x.attr ≠ postZ8) = false := decide_eq_false q3
              by_cases q4 : F ≠ (k : Int)
              · have d4 : (F != (k : Int)) = true := by simpa using q4
                have HQ := Lib.hid (show ¬ EntsOk l from fun h => q4 (HIF.out h).2.2.2.2.1)
                clear q0 q1 q2 q3 q4
                clear HIF HNX hprev hkp
                go_quiet (first
                  | (go_at_call_of 99 (x.name); refine Calls.quiet_of (KF _))
                  | (go_at_call_of 100 (x.name); refine Calls.quiet_of (KN _)))
                all_goals
                  go_wp2
                  go_ret
                  exact TellsP.no HQ.out (bdN HB.out _)
              · have d4 : (F != (k : Int)) = false := by simpa using q4
                by_cases q5 : N ≠ 0
                · have d5 : (N != 0) = true := by simpa using q5
                  have HQ := Lib.hid (show ¬ EntsOk l from fun h => q5 (HIF.out h).2.2.2.2.2.1)
                  clear q0 q1 q2 q3 q4 q5
                  clear HIF HNX hprev hkp
                  go_quiet (first
                    | (go_at_call_of 99 (x.name); refine Calls.quiet_of (KF _))
                    | (go_at_call_of 100 (x.name); refine Calls.quiet_of (KN _)))
                  all_goals
                    go_wp2
                    go_ret
                    exact TellsP.no HQ.out (bdN HB.out _)
                · have d5 : (N != 0) = false := by simpa using q5
                  have hne : N = 0 := by simpa using q5
                  by_cases q6 : 0 < k
                  · have d6 : decide ((0 : Int) < (k : Int)) = true := decide_eq_true (by omega)
                    have hp := hprev q6
                    have hwp : IntKind.i64.wrap ((k : Int) - 1) = ((k - 1 : Nat) : Int) := by rw [IntWalk.i64_in _ (by omega)]; omega
                    have hkq : ((k - 1 : Nat) : Int) < (l.length : Int) := by omega
                    have hkq0 : (0 : Int) ≤ ((k - 1 : Nat) : Int) := Int.natCast_nonneg _
                    by_cases q7 : x.cookie ≤ pc
                    · have d7 : decide (x.cookie ≤ pc) = true := decide_eq_true q7
                      have HQ := Lib.hid (show ¬ EntsOk l from fun h => absurd ((HIF.out h).2.2.2.2.2.2 q6) (by omega))
                      clear q0 q1 q2 q3 q4 q5 q7 HIF HNX hprev
                      go_quiet (first
                        | (go_at_call_of 99 (x.name); refine Calls.quiet_of (KF _))
                        | (go_at_call_of 100 (x.name); refine Calls.quiet_of (KN _)))
                      all_goals
                        go_wp2
                        go_ret
                        exact TellsP.no HQ.out (bdN HB.out _)
                    · have d7 : decide (x.cookie ≤ pc) = false := decide_eq_false q7
                      have HN := Lib.hid (HNX.out ⟨by omega, by omega, Classical.not_not.1 q2, Classical.not_not.1 q3, Classical.not_not.1 q4, hne, fun _ => by omega⟩)
                      clear q0 q1 q2 q3 q4 q5 q7 HIF HNX hprev hne
                      go_quiet (first
                        | (go_at_call_of 99 (x.name); refine Calls.quiet_of (KF _))
                        | (go_at_call_of 100 (x.name); refine Calls.quiet_of (KN _)))
                      all_goals
                        go_wp2
                        go_roundw
                        case rel => exact ⟨k + 1, by have := HLK.out; omega, by go_num, HN.out, bdN HB.out _⟩
                        case measure => have := HLK.out; simp [intOf]; omega
                  · have d6 : decide ((0 : Int) < (k : Int)) = false := decide_eq_false (by omega)
                    have HN := Lib.hid (HNX.out ⟨by omega, by omega, Classical.not_not.1 q2, Classical.not_not.1 q3, Classical.not_not.1 q4, hne, fun h => absurd h q6⟩)
                    clear q0 q1 q2 q3 q4 q5 HIF HNX hprev hne
                    go_quiet (first
                      | (go_at_call_of 99 (x.name); refine Calls.quiet_of (KF _))
                      | (go_at_call_of 100 (x.name); refine Calls.quiet_of (KN _)))
                    all_goals
                      go_wp2
                      go_roundw
                      case rel => exact ⟨k + 1, by have := HLK.out; omega, by go_num, HN.out, bdN HB.out _⟩
                      case measure => have := HLK.out; simp [intOf]; omega
    · obtain rfl : k = l.length := by omega
      have HG := Lib.hid hG.all
      have hk1 : ¬ (l.length : Int) < (l.length : Int) := by omega
      clear hG hA hlk
      go_wp2
      go_ret
      exact TellsP.yes HG.out hb
end Go.Proofs.YtgifmpobokaejaaGreatDoor
