/-
  Layer 21 in plain words: how many bytes nodes use, which number is free, what room there is. No condition.
-/
import Derived.Test.YteommanceipipaaApi
namespace Go.Proofs.Yteommanceipipaa
open Go.RowKit

def used (ns : List Nd) : Nat := (ns.map fun n => n.data.size).sum
def owned (ns : List Nd) (uid : Int) : Nat := used (ns.filter fun n => n.attr.uid == uid)
def small (ns : List Nd) : Prop := ns.length ≤ 70 ∧ ∀ n ∈ ns, n.data.size ≤ 2000

theorem used_snoc (ns : List Nd) (n : Nd) : used (ns ++ [n]) = used ns + n.data.size := by simp [used]
theorem used_le (ns : List Nd) (h : ∀ n ∈ ns, n.data.size ≤ 2000) : used ns ≤ 2000 * ns.length := by
  induction ns with
  | nil => simp [used]
  | cons n ns ih =>
    have h1 := h n (by simp)
    have h2 := ih fun m hm => h m (by simp [hm])
    simp only [used, List.map_cons, List.sum_cons, List.length_cons] at *
    omega
theorem used_filter_le (ns : List Nd) (p : Nd → Bool) : used (ns.filter p) ≤ used ns := by
  induction ns with
  | nil => simp [used]
  | cons n ns ih =>
    simp only [used, List.filter_cons, List.map_cons, List.sum_cons] at *
    split
    · simp only [List.map_cons, List.sum_cons]; omega
    · omega
theorem take_succ (l : List Nd) (k : Nat) (hk : k < l.length) : l.take (k + 1) = l.take k ++ [l[k]] := List.take_succ_eq_append_getElem hk

theorem owned_succ (ns : List Nd) (uid : Int) (k : Nat) (hk : k < ns.length) : owned (ns.take (k + 1)) uid = if ns[k].attr.uid == uid then owned (ns.take k) uid + ns[k].data.size else owned (ns.take k) uid := by
  unfold owned
  rw [take_succ _ _ hk, List.filter_append]
  by_cases h : (ns[k].attr.uid == uid) = true
  · rw [if_pos h]; simp only [List.filter_cons, h, if_true, List.filter_nil]; exact used_snoc _ _
  · rw [if_neg h]; simp only [List.filter_cons, h, List.filter_nil]; simp
theorem owned_hit {ns : List Nd} {uid : Int} {k : Nat} (hk : k < ns.length) (h : (ns[k].attr.uid == uid) = true) : owned (ns.take (k + 1)) uid = owned (ns.take k) uid + ns[k].data.size := by
  rw [owned_succ _ _ _ hk, if_pos h]
theorem owned_miss {ns : List Nd} {uid : Int} {k : Nat} (hk : k < ns.length) (h : (ns[k].attr.uid == uid) = false) : owned (ns.take (k + 1)) uid = owned (ns.take k) uid := by
  rw [owned_succ _ _ _ hk, if_neg (by simp [h])]

def bulky (n : Nd) : Bool := decide (2000 < n.data.size) || decide (70 < n.en)
def large (ns : List Nd) : Bool := (ns.take 70).any bulky || decide (70 < ns.length)
theorem large_yes {ns : List Nd} {k : Nat} (hk : k < ns.length) (h7 : k < 70) (h : bulky ns[k] = true) : large ns = true := by
  have h1 : ns[k] ∈ ns.take 70 := by
    have : (ns.take 70)[k]? = some ns[k] := by rw [List.getElem?_take, if_pos h7]; exact List.getElem?_eq_getElem hk
    exact List.mem_of_getElem? this
  unfold large; rw [List.any_eq_true.2 ⟨_, h1, h⟩]; rfl
theorem bulky_step {ns : List Nd} {k : Nat} (hk : k < ns.length) (hn : (ns.take k).any bulky = false) (h : bulky ns[k] = false) : (ns.take (k + 1)).any bulky = false := by
  rw [take_succ _ _ hk, List.any_append, hn]; simp [h]
theorem large_end {ns : List Nd} {k : Nat} (hk : k ≤ ns.length) (hk7 : k ≤ 70) (hn : (ns.take k).any bulky = false) (he : ¬ (k < ns.length ∧ k < 70)) : large ns = decide (70 < (ns.length : Int)) := by
  unfold large
  have : (ns.take 70).any bulky = false := by
    rcases Nat.lt_or_ge k 70 with h | h
    · rw [List.take_of_length_le (by omega)]
      rw [List.take_of_length_le (by omega)] at hn
      exact hn
    · obtain rfl : k = 70 := by omega
      exact hn
  rw [this, Bool.false_or]
  exact decide_eq_decide.2 (by omega)
theorem small_of {ns : List Nd} (h : large ns = false) : small ns := by
  unfold large at h
  simp only [Bool.or_eq_false_iff, decide_eq_false_iff_not] at h
  have hl : ns.length ≤ 70 := by omega
  refine ⟨hl, fun n hn => ?_⟩
  rw [List.take_of_length_le hl] at h
  have := List.any_eq_false.1 h.1 n hn
  simp only [bulky, Bool.or_eq_true, decide_eq_true_eq] at this
  omega

/-- the first place where p holds, or -1 -/
def findI {α : Type} (p : α → Bool) (l : List α) : Int := match l.findIdx? p with | some i => (i : Int) | none => -1
theorem findI_hit {α : Type} {p : α → Bool} {l : List α} {k : Nat} (hk : k < l.length) (hn : (l.take k).any p = false) (h : p l[k] = true) : findI p l = k := by
  unfold findI
  have : l.findIdx? p = some k := by
    rw [List.findIdx?_eq_some_iff_getElem]
    refine ⟨hk, h, fun j hj => ?_⟩
    have hm : l[j] ∈ l.take k := by
      have : (l.take k)[j]? = some l[j] := by rw [List.getElem?_take, if_pos hj]; exact List.getElem?_eq_getElem (by omega)
      exact List.mem_of_getElem? this
    have := List.any_eq_false.1 hn _ hm
    simpa using this
  rw [this]
theorem findI_none {α : Type} {p : α → Bool} {l : List α} (hn : l.any p = false) : findI p l = -1 := by
  unfold findI
  have : l.findIdx? p = none := by
    rw [List.findIdx?_eq_none_iff]
    intro x hx
    simpa using List.any_eq_false.1 hn x hx
  rw [this]
theorem findI_any {α : Type} (p : α → Bool) (l : List α) : decide (0 ≤ findI p l) = l.any p := by
  unfold findI
  cases h : l.findIdx? p with
  | none =>
    rw [List.findIdx?_eq_none_iff] at h
    symm
    rw [List.any_eq_false.2 (fun x hx => by simp [h x hx])]
    decide
  | some i =>
    obtain ⟨hi, hp, _⟩ := List.findIdx?_eq_some_iff_getElem.1 h
    symm
    rw [List.any_eq_true.2 ⟨_, List.getElem_mem hi, hp⟩]
    simp
theorem any_step {α : Type} {p : α → Bool} {l : List α} {k : Nat} (hk : k < l.length) (hn : (l.take k).any p = false) (h : p l[k] = false) : (l.take (k + 1)).any p = false := by
  rw [List.take_succ_eq_append_getElem hk, List.any_append, hn]; simp [h]
theorem any_end {α : Type} {p : α → Bool} {l : List α} {k : Nat} (hk : l.length ≤ k) (hn : (l.take k).any p = false) : l.any p = false := by
  rwa [List.take_of_length_le hk] at hn

/-- is a number taken? -/
def taken (ns : List Nd) (id : Int) : Bool := ns.any fun n => n.attr.id == id
theorem pigeon (m : Nat) : ∀ L : List Int, (∀ j : Nat, 1 ≤ j → j ≤ m → (j : Int) ∈ L) → m ≤ L.length := by
  induction m with
  | zero => intros; omega
  | succ m ih =>
    intro L h
    have h1 : ((m + 1 : Nat) : Int) ∈ L := h (m + 1) (by omega) (by omega)
    have := ih (L.erase ((m + 1 : Nat) : Int)) fun j h2 h3 => (List.mem_erase_of_ne (by omega)).2 (h j h2 (by omega))
    rw [List.length_erase_of_mem h1] at this
    have : 0 < L.length := List.length_pos_of_mem h1
    omega
theorem taken_le {ns : List Nd} {m : Nat} (h : ∀ j : Nat, 1 ≤ j → j ≤ m → taken ns j = true) : m ≤ ns.length := by
  have := pigeon m (ns.map fun n => n.attr.id) fun j h1 h2 => by
    obtain ⟨n, hn, he⟩ := List.any_eq_true.1 (h j h1 h2)
    exact List.mem_map.2 ⟨n, hn, by simpa using he⟩
  simpa using this
/-- the least number from 1 on that is free: 'id' is that -/
def Free (ns : List Nd) (id : Nat) : Prop := 1 ≤ id ∧ taken ns id = false ∧ ∀ j : Nat, 1 ≤ j → j < id → taken ns j = true
theorem Free.unique {ns : List Nd} {a b : Nat} (ha : Free ns a) (hb : Free ns b) : a = b := by
  rcases Nat.lt_trichotomy a b with h | h | h
  · have := hb.2.2 a ha.1 h; rw [ha.2.1] at this; cases this
  · exact h
  · have := ha.2.2 b hb.1 h; rw [hb.2.1] at this; cases this

/-- limits that may be -/
def Lim.ok (l : Lim) : Bool := decide (0 ≤ l.space) && decide (l.space ≤ 1073741824) && decide (0 ≤ l.quota) && decide (l.quota ≤ 1073741824) && decide (1 ≤ l.nodes) && decide (l.nodes ≤ 64)
theorem Lim.bounds {l : Lim} (h : l.ok = true) : 0 ≤ l.space ∧ l.space ≤ 1073741824 ∧ 0 ≤ l.quota ∧ l.quota ≤ 1073741824 ∧ 1 ≤ l.nodes ∧ l.nodes ≤ 64 := by
  simp only [Lim.ok, Bool.and_eq_true, decide_eq_true_eq] at h; omega
def free (t : Tr) : Int := max 0 (t.lim.space - used t.ns)
def left (t : Tr) (uid : Int) : Int := if uid == 0 then free t else min (free t) (max 0 (t.lim.quota - owned t.ns uid))
def room (t : Tr) (uid more : Int) : Int := if more < 1 then 0 else if free t < more then 28 else if left t uid < more then 69 else 0
def rroom (t : Tr) (uid more : Int) : Int :=
  if more < 1 then 0 else if t.lim.space - used t.ns < more then 28 else if uid ≠ 0 ∧ t.lim.quota - owned t.ns uid < more then 69 else 0
theorem room_same (t : Tr) (uid more : Int) : room t uid more = rroom t uid more := by
  unfold room rroom left free
  by_cases h1 : more < 1
  · rw [if_pos h1, if_pos h1]
  · rw [if_neg h1, if_neg h1]
    by_cases h2 : t.lim.space - used t.ns < more
    · rw [if_pos h2, if_pos (by omega)]
    · rw [if_neg h2, if_neg (by omega)]
      by_cases h3 : uid = 0
      · subst h3; simp; omega
      · simp only [beq_iff_eq, h3, if_false, ne_eq, not_false_eq_true, true_and]
        by_cases h4 : t.lim.quota - owned t.ns uid < more
        · rw [if_pos h4, if_pos (by omega)]
        · rw [if_neg h4, if_neg (by omega)]
theorem room_less {t : Tr} {uid more less : Int} (h : room t uid more = 0) (hl : less ≤ more) : room t uid less = 0 := by
  unfold room at *
  split at h
  · rw [if_pos (by omega)]
  · split at h
    · cases h
    · split at h
      · cases h
      · split
        · rfl
        · rw [if_neg (by omega), if_neg (by omega)]

end Go.Proofs.Yteommanceipipaa
