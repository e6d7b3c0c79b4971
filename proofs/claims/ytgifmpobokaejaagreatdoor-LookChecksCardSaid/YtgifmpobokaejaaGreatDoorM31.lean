/-
  Layer 8 in plain words: what bytes are results. No condition.
-/
import Derived.Test.YtgifmpobokaejaaGreatDoorM16
import Derived.Test.YtgifmpobokaejaaGreatDoorM30
import Derived.Test.YtgifmpobokaejaaGreatDoorM03
namespace Go.Proofs.YtgifmpobokaejaaGreatDoor

/-- results as data: the fields, the entries, the numbers -/
structure RepD where
  f : Flds
  es : List Entry
  us : List Int
/-- k numbers, one behind the other -/
def numsK (r : Rs) : Nat → List Int × Rs
  | 0 => ([], r)
  | k + 1 => ((numsK r k).1 ++ [((rU64 (numsK r k).2).1 : Int)], (rU64 (numsK r k).2).2)
/-- what an entry is read as, ahead of its attributes -/
def oneA (r : Rs) : Entry × Rs :=
  ({ gen := (rU64 r).1, name := (rOpaque 255 (rU64 r).2).1, cookie := (rU64 (rOpaque 255 (rU64 r).2).2).1, attr := postZ8, fh := [] }, (rU64 (rOpaque 255 (rU64 r).2).2).2)
/-- an entry, with all that it has, or not -/
def oneE (whole : Bool) (r : Rs) : Entry × Rs :=
  if whole then ({ (oneA r).1 with attr := (gotR Post.ok postZ (rPost (oneA r).2)).1, fh := (rOpaque 64 (rPost (oneA r).2).2).1 }, (rOpaque 64 (rPost (oneA r).2).2).2) else oneA r
def oneOk (whole : Bool) (r : Rs) : Bool := (!whole || (gotR Post.ok postZ (rPost (oneA r).2)).2 == 0) && ((oneE whole r).2.e == 0)
/-- k entries, one behind the other -/
def entsK (whole : Bool) (r : Rs) : Nat → List Entry × Rs
  | 0 => ([], r)
  | k + 1 => ((entsK whole r k).1 ++ [(oneE whole (entsK whole r k).2).1], (oneE whole (entsK whole r k).2).2)
/-- the field of a letter is taken -/
def pTk (c : Nat) (d : RepD) (r : Rs) : RepD × Rs :=
  if c = 104 then ({ d with f := { d.f with fh := (rOpaque 64 r).1 } }, (rOpaque 64 r).2)
  else if c = 97 then ({ d with f := { d.f with obj := (gotR Post.ok postZ (rPost r)).1 } }, (rPost r).2)
  else if c = 68 then ({ d with f := { d.f with dir := (gotR Post.ok postZ (rPost r)).1 } }, (rPost r).2)
  else if c = 119 then ({ d with f := { d.f with wcc := (gotR Wcc.ok wccZ (rWcc r)).1 } }, (rWcc r).2)
  else if c = 87 then ({ d with f := { d.f with wcc2 := (gotR Wcc.ok wccZ (rWcc r)).1 } }, (rWcc r).2)
  else if c = 120 then ({ d with f := { d.f with access := (rU32 r).1 } }, (rU32 r).2)
  else if c = 99 then ({ d with f := { d.f with count := (rU32 r).1 } }, (rU32 r).2)
  else if c = 115 then ({ d with f := { d.f with stable := (rU32 r).1 } }, (rU32 r).2)
  else if c = 118 then ({ d with f := { d.f with verf := (rU64 r).1 } }, (rU64 r).2)
  else if c = 101 then ({ d with f := { d.f with eof := (rBool r).1 } }, (rBool r).2)
  else if c = 100 then ({ d with f := { d.f with data := (rOpaque 256 r).1 } }, (rOpaque 256 r).2)
  else if c = 110 then ({ d with us := (numsK (rU32 r).2 (rU32 r).1).1 }, (numsK (rU32 r).2 (rU32 r).1).2)
  else if c = 108 then ({ d with es := (entsK false (rU32 r).2 (rU32 r).1).1 }, (entsK false (rU32 r).2 (rU32 r).1).2)
  else if c = 112 then ({ d with es := (entsK true (rU32 r).2 (rU32 r).1).1 }, (entsK true (rU32 r).2 (rU32 r).1).2)
  else (d, r)
/-- may it be -/
def pTkOk (c : Nat) (r : Rs) : Bool :=
  if c = 97 ∨ c = 68 then (gotR Post.ok postZ (rPost r)).2 == 0
  else if c = 119 ∨ c = 87 then (gotR Wcc.ok wccZ (rWcc r)).2 == 0
  else if c = 110 then decide ((rU32 r).1 ≤ 16) && ((numsK (rU32 r).2 (rU32 r).1).2.e == 0)
  else if c = 108 then decide ((rU32 r).1 ≤ 64) && (((rU32 r).2.e == 0) && (List.range (rU32 r).1).all fun i => oneOk false (entsK false (rU32 r).2 i).2)
  else if c = 112 then decide ((rU32 r).1 ≤ 64) && (((rU32 r).2.e == 0) && (List.range (rU32 r).1).all fun i => oneOk true (entsK true (rU32 r).2 i).2)
  else (pTk c ⟨fldsZ, [], []⟩ r).2.e == 0
/-- the first k letters' fields are taken -/
def pSt (l : List UInt8) (d : RepD) (r : Rs) (k : Nat) : RepD × Rs := (l.take k).foldl (fun x c => pTk c.toNat x.1 x.2) (d, r)
theorem pSt_succ (l : List UInt8) (d : RepD) (r : Rs) (k : Nat) (hk : k < l.length) : pSt l d r (k + 1) = pTk l[k].toNat (pSt l d r k).1 (pSt l d r k).2 := by
  unfold pSt
  rw [List.take_add_one, List.getElem?_eq_getElem hk, List.foldl_append]
  rfl
def pStOk (l : List UInt8) (d : RepD) (r : Rs) (k : Nat) : Bool := pTkOk (l.getD k 0).toNat (pSt l d r k).2
/-- results of a status alone -/
def repS (n : Nat) : RepD := ⟨{ fldsZ with status := n }, [], []⟩
end Go.Proofs.YtgifmpobokaejaaGreatDoor
