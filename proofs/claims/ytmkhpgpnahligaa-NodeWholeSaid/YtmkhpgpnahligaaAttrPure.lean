/-
  Layer 5 in plain words: what attributes, and what is to be set, may be; their bytes; what becomes of them. No condition.
-/
import Derived.Test.YtmkhpgpnahligaaApiAttr
import Derived.Test.YtmkhpgpnahligaaXdrPure
import Derived.Test.YtmkhpgpnahligaaLists
namespace Go.Proofs.Ytmkhpgpnahligaa

def okN (n most : Int) : Bool := decide (0 ≤ n) && decide (n ≤ most)
def Opt.ok (o : Opt) (most : Int) : Bool := if o.is then okN o.n most else o.n == 0
def Sett.ok (s : Sett) : Bool := s.mode.ok 4095 && (s.uid.ok 4294967295 && (s.gid.ok 4294967295 && (s.size.ok 9223372036854775807 && s.time.ok 9223372036854775807)))
def form (b : Bool) : Int := if b then 0 else 14
def Opt.bytes (o : Opt) : List UInt8 := optB o.is o.n
def Sett.bytes (s : Sett) : List UInt8 := s.mode.bytes ++ s.uid.bytes ++ s.gid.bytes ++ s.size.bytes ++ s.time.bytes
def Sett.empty (s : Sett) : Bool := !s.mode.is && (!s.uid.is && (!s.gid.is && (!s.size.is && !s.time.is)))
def Opt.over (o : Opt) (n : Int) : Int := if o.is then o.n else n
def Attr.applied (a : Attr) (s : Sett) (now : Int) : Attr :=
  { a with mode := s.mode.over a.mode, uid := s.uid.over a.uid, gid := s.gid.over a.gid, change := if s.empty then a.change else now, time := if s.time.is then s.time.n else if s.size.is then now else a.time }
def big : Int := 9223372036854775807
def Attr.ok (a : Attr) : Bool :=
  okN a.type 7 && decide (1 ≤ a.type) && okN a.mode 4095 && okN a.nlink 4294967295 && okN a.uid 4294967295 && okN a.gid 4294967295 && okN a.id 4294967295 && decide (0 ≤ a.size) && decide (0 ≤ a.gen) && decide (0 ≤ a.change) && decide (0 ≤ a.time)
theorem Opt.ok_pos {o : Opt} {m : Int} (h : o.ok m = true) : o.is = true → 0 ≤ o.n := fun hi => by
  unfold Opt.ok okN at h
  rw [if_pos hi] at h
  simp at h
  exact h.1
theorem Sett.ok_pos {s : Sett} (h : s.ok = true) : (s.mode.is = true → 0 ≤ s.mode.n) ∧ (s.uid.is = true → 0 ≤ s.uid.n) ∧ (s.gid.is = true → 0 ≤ s.gid.n) ∧ (s.size.is = true → 0 ≤ s.size.n) ∧ (s.time.is = true → 0 ≤ s.time.n) := by
  unfold Sett.ok at h
  simp only [Bool.and_eq_true] at h
  exact ⟨Opt.ok_pos h.1, Opt.ok_pos h.2.1, Opt.ok_pos h.2.2.1, Opt.ok_pos h.2.2.2.1, Opt.ok_pos h.2.2.2.2⟩
/-- the options, in order -/
def Sett.opt (s : Sett) : Nat → Opt
  | 0 => s.mode
  | 1 => s.uid
  | 2 => s.gid
  | 3 => s.size
  | _ => s.time
def Sett.upto (s : Sett) : Nat → List UInt8
  | 0 => []
  | k + 1 => s.upto k ++ (s.opt k).bytes
theorem Sett.upto_five (s : Sett) : s.upto 5 = s.bytes := by simp [Sett.upto, Sett.opt, Sett.bytes]
theorem Opt.bytes_len (o : Opt) : o.bytes.length ≤ 12 := by
  unfold Opt.bytes optB truth
  cases o.is <;> simp [num_len]
theorem Sett.upto_len (s : Sett) (k : Nat) : (s.upto k).length ≤ 12 * k := by
  induction k with
  | zero => simp [Sett.upto]
  | succ k ih => have := (s.opt k).bytes_len; simp only [Sett.upto, List.length_append]; omega
theorem Sett.empty_not {s : Sett} {k : Nat} (hk : k < 5) (h : (s.opt k).is = true) : s.empty = false := by
  match k, hk with
  | 0, _ | 1, _ | 2, _ | 3, _ | 4, _ => simp only [Sett.opt] at h; simp [Sett.empty, h]
theorem Sett.empty_end {s : Sett} (h : ∀ j, j < 5 → (s.opt j).is = false) : s.empty = true := by
  have h0 := h 0 (by omega)
  have h1 := h 1 (by omega)
  have h2 := h 2 (by omega)
  have h3 := h 3 (by omega)
  have h4 := h 4 (by omega)
  simp only [Sett.opt] at h0 h1 h2 h3 h4
  simp [Sett.empty, h0, h1, h2, h3, h4]
theorem Sett.opt_pos {s : Sett} (h : s.ok = true) {k : Nat} (hk : k < 5) : (s.opt k).is = true → 0 ≤ (s.opt k).n := by
  obtain ⟨h0, h1, h2, h3, h4⟩ := Sett.ok_pos h
  match k, hk with
  | 0, _ => exact h0
  | 1, _ => exact h1
  | 2, _ => exact h2
  | 3, _ => exact h3
  | 4, _ => exact h4
theorem Sett.opt_good {s : Sett} (h : s.good) {k : Nat} (hk : k < 5) : (s.opt k).good := by
  obtain ⟨h0, h1, h2, h3, h4⟩ := h
  match k, hk with
  | 0, _ => exact h0
  | 1, _ => exact h1
  | 2, _ => exact h2
  | 3, _ => exact h3
  | 4, _ => exact h4
end Go.Proofs.Ytmkhpgpnahligaa
