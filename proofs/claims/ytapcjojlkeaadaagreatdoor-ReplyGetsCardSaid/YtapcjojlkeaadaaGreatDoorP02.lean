/-
  Layer 1 in plain words: numbers and texts in fields of four bytes, written and read. No condition.
-/
import Derived.Test.YtapcjojlkeaadaaGreatDoorP01
import Derived.Laws.BytesArg
namespace Go.Proofs.YtapcjojlkeaadaaGreatDoor
open Go.RowKit

/-- a text of these bytes -/
abbrev bs (l : List UInt8) : ByteArray := ⟨l.toArray⟩
theorem bs_list (s : ByteArray) : bs s.data.toList = s := by cases s; simp [bs]
theorem bs_size (l : List UInt8) : (bs l).size = l.length := rfl
theorem bs_inj {a b : List UInt8} (h : bs a = bs b) : a = b := by
  have : (bs a).data.toList = (bs b).data.toList := by rw [h]
  simpa using this
theorem bs_append (a b : List UInt8) : bs a ++ bs b = bs (a ++ b) := ByteArray.mk_append_mk a b
theorem bs_get (s : List UInt8) (i : Nat) (h : i < (bs s).size) : (bs s)[i]'h = s[i]'h := rfl
theorem bs_take (s : List UInt8) (n : Nat) : (bs s).extract 0 n = bs (s.take n) := by
  apply ByteArray.ext
  simp [List.extract]
theorem bs_drop (s : List UInt8) (n : Nat) : (bs s).extract n s.length = bs (s.drop n) := by
  apply ByteArray.ext
  simp [List.extract]
  rw [List.take_of_length_le (by simp)]
theorem ofNat_mod (q : Nat) : UInt8.ofNat (q % 256) = UInt8.ofNat q := by apply UInt8.toNat_inj.1; simp
def u8 (b : UInt8) : Value := .int .u8 b.toNat
theorem u8_one (l : List UInt8) : ∀ u ∈ l.map u8, u.oneCell' = true := by
  intro u hu; obtain ⟨b, _, rfl⟩ := List.mem_map.1 hu; rfl
theorem u8_wrap (n : Nat) : IntKind.u8.wrap (n : Int) = ((UInt8.ofNat n).toNat : Int) := by
  rw [IntKind.wrap_u8]; simp
theorem shr_byte (n m : Nat) (hm : 1 ≤ m) (hm8 : m ≤ 8) : Op.shift .shr .i64 (n : Int) .i64 (IntKind.i64.wrap (8 * ((m : Int) - 1))) = pure (.int .i64 ((n / 256 ^ (m - 1) : Nat) : Int)) := by
  rw [IntWalk.i64_in _ (by omega), shift_shr .i64 .i64 _ _ (by omega) (by show 8 * ((m : Int) - 1) ≤ 64; omega)]
  have e : (8 * ((m : Int) - 1)).toNat = 8 * (m - 1) := by omega
  have e2 : ((2 : Int) ^ (8 * (m - 1))) = ((256 ^ (m - 1) : Nat) : Int) := by
    rw [show (256 : Nat) = 2 ^ 8 by rfl, ← Nat.pow_mul, Int.natCast_pow]; rfl
  rw [e, e2]
  rfl

/-- a number's bytes, the highest first -/
def num (n : Nat) : Nat → List UInt8
  | 0 => []
  | k + 1 => num (n / 256) k ++ [UInt8.ofNat n]
theorem num_len (n k : Nat) : (num n k).length = k := by
  induction k generalizing n with
  | zero => rfl
  | succ k ih => simp [num, ih]
/-- the same, from the highest down -/
theorem num_cons (n k : Nat) : num n (k + 1) = UInt8.ofNat (n / 256 ^ k) :: num n k := by
  induction k generalizing n with
  | zero => simp [num]
  | succ k ih =>
    rw [num, ih (n / 256)]
    simp only [List.cons_append]
    rw [Nat.div_div_eq_div_mul, ← Nat.pow_succ']
    rfl
def padn (n : Nat) : Nat := (4 - n % 4) % 4
theorem padn_lt (n : Nat) : padn n < 4 := Nat.mod_lt _ (by omega)
def filled (l : List UInt8) : List UInt8 := l ++ List.replicate (padn l.length) 0
theorem filled_len (l : List UInt8) : (filled l).length = l.length + padn l.length := by simp [filled]
def opq (l : List UInt8) : List UInt8 := num l.length 4 ++ filled l
def truth (b : Bool) : List UInt8 := num (if b then 1 else 0) 4
def optB (b : Bool) (n : Int) : List UInt8 := truth b ++ (if b then num n.toNat 8 else [])

/-- a number out of its bytes -/
def beVal : List UInt8 → Nat
  | [] => 0
  | b :: l => b.toNat * 256 ^ l.length + beVal l
theorem beVal_snoc (l : List UInt8) (b : UInt8) : beVal (l ++ [b]) = beVal l * 256 + b.toNat := by
  induction l with
  | nil => simp [beVal]
  | cons c l ih =>
    simp only [List.cons_append, beVal, ih, List.length_append, List.length_cons, List.length_nil, Nat.zero_add, Nat.pow_succ, Nat.add_mul]
    rw [Nat.mul_assoc]; omega
theorem beVal_lt (l : List UInt8) : beVal l < 256 ^ l.length := by
  induction l with
  | nil => simp [beVal]
  | cons b l ih =>
    simp only [beVal, List.length_cons, Nat.pow_succ]
    have : b.toNat ≤ 255 := by have := b.toNat_lt; omega
    have h2 := Nat.mul_le_mul_right (256 ^ l.length) this
    omega
theorem beVal_num (n k : Nat) (h : n < 256 ^ k) : beVal (num n k) = n := by
  induction k generalizing n with
  | zero => simp [num, beVal] at *; omega
  | succ k ih =>
    rw [num, beVal_snoc, ih (n / 256) (by rw [Nat.pow_succ] at h; omega)]
    simp; omega
theorem num_beVal (l : List UInt8) : num (beVal l) l.length = l := by
  have key : ∀ k (l : List UInt8), l.length = k → num (beVal l) k = l := by
    intro k
    induction k with
    | zero => intro l h; rw [List.eq_nil_of_length_eq_zero h]; rfl
    | succ k ih =>
      intro l h
      rw [← List.dropLast_concat_getLast (l := l) (by intro e; rw [e] at h; cases h)]
      generalize hb : l.getLast _ = b
      have hl : l.dropLast.length = k := by simp [h]
      have hb' : b.toNat < 256 := b.toNat_lt
      rw [beVal_snoc, num, show (beVal l.dropLast * 256 + b.toNat) / 256 = beVal l.dropLast by omega, ih _ hl]
      congr 2
      apply UInt8.toNat_inj.1
      simp
  exact key _ l rfl

/-- a reader: what is left, and the first error -/
structure Rs where
  s : List UInt8
  e : Int
  deriving DecidableEq
def Rs.fail (e : Int) : Rs := ⟨[], e⟩
def rNum (k : Nat) (r : Rs) : Nat × Rs :=
  if r.e ≠ 0 then (0, r) else if r.s.length < k then (0, Rs.fail 10) else (beVal (r.s.take k), ⟨r.s.drop k, 0⟩)
def rU32 (r : Rs) : Nat × Rs := rNum 4 r
def rU64 (r : Rs) : Nat × Rs := if 9223372036854775808 ≤ (rNum 8 r).1 then (0, Rs.fail 3) else rNum 8 r
def rBool (r : Rs) : Bool × Rs := if 1 < (rU32 r).1 then (false, Rs.fail 13) else ((rU32 r).1 == 1, (rU32 r).2)
def rOpt (r : Rs) : (Bool × Nat) × Rs :=
  if (rBool r).1 then (if (rU64 (rBool r).2).2.e ≠ 0 then ((false, 0), (rU64 (rBool r).2).2) else ((true, (rU64 (rBool r).2).1), (rU64 (rBool r).2).2)) else ((false, 0), (rBool r).2)
/-- a text of n bytes, and what fills it up -/
def rPadded (n : Nat) (r : Rs) : List UInt8 × Rs :=
  if r.e ≠ 0 then ([], r)
  else if r.s.length < n then ([], Rs.fail 10)
  else if (r.s.drop n).length < padn n then ([], Rs.fail 10)
  else if ((r.s.drop n).take (padn n)).all (· == 0) then (r.s.take n, ⟨(r.s.drop n).drop (padn n), 0⟩)
  else ([], Rs.fail 11)
def rFixed (n : Int) (r : Rs) : List UInt8 × Rs := if r.e ≠ 0 then ([], r) else if n < 0 then ([], Rs.fail 2) else rPadded n.toNat r
def rOpaque (most : Int) (r : Rs) : List UInt8 × Rs :=
  if (rU32 r).2.e ≠ 0 then ([], (rU32 r).2) else if most < ((rU32 r).1 : Int) then ([], Rs.fail 4) else rPadded (rU32 r).1 (rU32 r).2
def rLeft (r : Rs) : Nat := if r.e ≠ 0 then 0 else r.s.length
def rDone (r : Rs) : Int := if r.e ≠ 0 then r.e else if 0 < r.s.length then 12 else 0

end Go.Proofs.YtapcjojlkeaadaaGreatDoor

/-
  Bytes in slices and texts: a slice of bytes turned into a text; a row that is appended to, by bytes, by a text, by noughts. No condition but sizes.
-/
namespace Go.Proofs.YtapcjojlkeaadaaGreatDoor
open Go.RowKit

theorem strOf (l : List UInt8) : strOfNums (l.map fun b => (b.toNat : Int)) = bs l := by
  unfold strOfNums bs
  congr 1
  rw [List.map_map]
  congr 1
  conv => rhs; rw [← List.map_id l]
  refine List.map_congr_left fun b _ => ?_
  simp
theorem str_cells (l : List UInt8) : Lib.strCells (bs l) = l.map u8 := rfl

section
variable {P : Program} {w : World}
theorem run_row_string {base : Nat} {e src dst : TypeId} {sv : Value} {l : List UInt8} (hs : P.underlying src = some (.slice e)) (he : P.underlying e = some (.int .u8)) (hd : P.underlying dst = some .string)
    (hown : w.ownsRow base e 1 sv l.length (l.map u8)) : (convert src dst sv).run P w = .ok (.string (bs l)) w := by
  rcases hown.2 with ⟨rfl, hn⟩ | ⟨g, cap, cur, rfl, _⟩
  · have : l = [] := by simpa using hn
    subst this
    exact run_convert_bytes_nil w src e hs he 0 0 dst hd
  · rw [run_convert_bytes_arg (P := P) w src e hs he g 0 l.length cap (l.map fun b => (b.toNat : Int)) (by simp) (fun i hi => by
      have h1 := hown.cellAt i (by simpa using hi)
      rw [Nat.zero_add, h1]
      simp [u8, hi]) dst hd, strOf]
theorem run_one_string {src dst e : TypeId} (hs : P.underlying src = some (.slice e)) (he : P.underlying e = some (.int .u8)) (hd : P.underlying dst = some .string) (x : Int) (W : World) :
    (convert src dst (.slice (some ⟨W.heap.size, 0, none⟩) 1 1)).run P (W.alloc (.cells #[.int .u8 x] e)) = .ok (.string (bs [UInt8.ofNat x.toNat])) (W.alloc (.cells #[.int .u8 x] e)) := by
  rw [run_convert_bytes_arg (P := P) (W.alloc (.cells #[.int .u8 x] e)) src e hs he W.heap.size 0 1 1 [x] rfl (fun i hi => by
    obtain rfl : i = 0 := by omega
    rw [World.cell?_alloc_at _ _ _ _ rfl]; rfl) dst hd]
  rfl

/-- where the appended row lies: its old block, or a new one -/
theorem run_append_str_at (base : Nat) (t u ty e : TypeId) (i : TypeInfo) (ht : P.underlying t = some (.slice e)) (hu : P.underlying u = some .string) (hi : P.info? e = some i) (hz : i.zero = some (.int .u8 0))
    (hsize : i.size = 1) (hby : i.bytes = 1) (v : Value) (n : Nat) (xs : List Value) (hown : w.ownsRow base e 1 v n xs) (s : ByteArray)
    (h63 : n + s.size ≤ maxLen) (hbytes : n + s.size ≤ 140737488355328) (hbase : base ≤ w.heap.size) :
    ∃ v' w', (Builtin.append_ #[t, u] ty #[v, .string s]).run P w = .ok v' w' ∧ w'.ownsRow base e 1 v' (n + s.size) (xs ++ Lib.strCells s) ∧ w.grownBy w' v.ownBlock ∧ (v'.ownBlock = v.ownBlock ∨ v'.ownBlock = some w.heap.size) ∧ ∃ A c, v' = .slice A (n + s.size) c := by
  obtain ⟨v', w', hr, ho, hg, _⟩ := Lib.run_append_own_string (P := P) w base t u ty e i ht hu hi hz hsize hby v n xs hown s h63 hbytes hbase
  refine ⟨v', w', hr, ho, hg, ?_⟩
  have hsmall : n + s.size ≤ 9223372036854775807 := by simp only [maxLen] at h63; omega
  have hxl : xs.length = n := by simpa using hown.1
  rcases hown.2 with ⟨rfl, rfl⟩ | ⟨g, cap, cur, rfl, hbg, hgc, hnc, hcm, hcs, htake⟩
  · have hx : xs = [] := List.eq_nil_of_length_eq_zero hxl
    subst hx
    by_cases hm : s.size = 0
    · have hf := Lib.run_firstCells_string (P := P) w 1 s
      rw [hm] at hf
      have hr2 : (Builtin.append_ #[t, u] ty #[.slice none 0 0, .string s]).run P w = .ok (.slice none 0 0) w := by
        simp [Builtin.append_, run_underlying ht, run_underlying hu, sizeOf, typeInfo, hi, hsize, Builtin.lenOf, hm, hf]
      rw [hr2] at hr
      injection hr with h1 _
      subst h1
      exact ⟨.inl rfl, none, 0, by rw [hm]⟩
    · have hr2 := run_append_nil_string (P := P) w t u ty e i (.int .u8 0) ht hu hi hz s (by omega) (by omega) (by rw [hby]; omega)
      rw [hr2] at hr
      injection hr with h1 _
      subst h1
      exact ⟨.inr rfl, _, _, by rw [Nat.zero_add]⟩
  · by_cases hroom : n + s.size ≤ cap
    · have hcs' : cur.size = cap := by simpa using hcs
      have hr2 := Lib.run_append_room_string (P := P) w t u ty e i ht hu hi hsize g n cap cur hgc s hroom (by omega)
      rw [hr2] at hr
      injection hr with h1 _
      subst h1
      exact ⟨.inl rfl, _, _, rfl⟩
    · have holds : ∀ j u, xs[j]? = some u → w.cell? ((⟨g, 0, none⟩ : Addr).add j) = some u := hown.cells (g := g) rfl
      have hr2 := Lib.run_append_grow_string (P := P) w t u ty e i (.int .u8 0) ht hu hi hz ⟨g, 0, none⟩ n cap xs (by rw [hsize]; simpa using hxl) holds s (by omega) (by omega) (by rw [hby]; exact growslice_fits (by omega) (by omega))
      rw [hr2] at hr
      injection hr with h1 _
      subst h1
      exact ⟨.inr rfl, _, _, rfl⟩

theorem run_append_bytes_at (base : Nat) (t u ty e : TypeId) (i : TypeInfo) (ht : P.underlying t = some (.slice e)) (hu : P.underlying u = some .string) (hi : P.info? e = some i) (hz : i.zero = some (.int .u8 0))
    (hsize : i.size = 1) (hby : i.bytes = 1) (v : Value) (n : Nat) (xs : List Value) (hown : w.ownsRow base e 1 v n xs) (s : List UInt8)
    (hbytes : n + s.length ≤ 140737488355328) (hbase : base ≤ w.heap.size) :
    ∃ v' w', (Builtin.append_ #[t, u] ty #[v, .string (bs s)]).run P w = .ok v' w' ∧ w'.ownsRow base e 1 v' (n + s.length) (xs ++ s.map u8) ∧ w.grownBy w' v.ownBlock ∧ (v'.ownBlock = v.ownBlock ∨ v'.ownBlock = some w.heap.size) ∧ ∃ A c, v' = .slice A (n + s.length) c :=
  run_append_str_at base t u ty e i ht hu hi hz hsize hby v n xs hown (bs s) (by rw [bs_size]; unfold maxLen; omega) (by rw [bs_size]; omega) hbase

/-- n noughts -/
def zcells (n : Nat) : List Value := List.replicate n (.int .u8 0)
theorem zcells_len (n : Nat) : (zcells n).length = n := by simp [zcells]
theorem zcells_u8 (n : Nat) : zcells n = (List.replicate n (0 : UInt8)).map u8 := by simp [zcells, u8]
theorem zcells_one (n : Nat) : ∀ u ∈ zcells n, u.oneCell' = true := by
  intro u hu; rw [List.eq_of_mem_replicate hu]; rfl
theorem zeroCells_z (n : Nat) : Builtin.zeroCells (Value.int IntKind.u8 0).cells n = (zcells n).toArray := by
  apply Array.ext
  · simp [Builtin.zeroCells, zcells, Value.cells]
  · intro j h1 h2
    simp [Builtin.zeroCells, zcells, Value.cells, Nat.mod_one]

/-- 'append(b, make([]byte, m)...)' onto a row of the call's own -/
theorem run_append_zeros_at (base : Nat) (t u ty e : TypeId) (i : TypeInfo) (ht : P.underlying t = some (.slice e)) (hu : P.underlying u = some (.int .i64)) (hi : P.info? e = some i) (hz : i.zero = some (.int .u8 0))
    (hsize : i.size = 1) (hby : i.bytes = 1) (v : Value) (n : Nat) (xs : List Value) (hown : w.ownsRow base e 1 v n xs) (m : Nat)
    (hbytes : n + m ≤ 140737488355328) (hbase : base ≤ w.heap.size) :
    ∃ v' w', (Builtin.append_ #[t, u] ty #[v, .int .i64 m]).run P w = .ok v' w' ∧ w'.ownsRow base e 1 v' (n + m) (xs ++ zcells m) ∧ w.grownBy w' v.ownBlock ∧ (v'.ownBlock = v.ownBlock ∨ v'.ownBlock = some w.heap.size) ∧ ∃ A c, v' = .slice A (n + m) c := by
  have h63 : n + m ≤ maxLen := by simp only [maxLen]; omega
  have hw0 : IntKind.i64.wrap (m : Int) = m := IntWalk.i64_in _ (by omega)
  have hai : ∀ W : World, (asIntOf (.int .i64 (m : Int))).run P W = .ok (.i64, (m : Int)) W := fun _ => rfl
  have hneg : ¬ ((m : Int) < 0) := by omega
  have hbig : ¬ (281474976710656 < (m : Int)) := by omega
  have hxl : xs.length = n := by simpa using hown.1
  have hlen : (xs ++ zcells m).length = (n + m) * 1 := by rw [List.length_append, hxl, zcells_len, Nat.mul_one]
  have grown : ∀ (old : Nat), old < n + m → ∀ (row : Option Nat),
      (w.drew.alloc (.cells (xs.toArray ++ (zcells m).toArray ++ Builtin.zeroCells (Value.int .u8 0).cells (grownCap w (n + m) old e - (n + m))) e)).ownsRow base e 1
        (.slice (some ⟨w.heap.size, 0, none⟩) (n + m) (grownCap w (n + m) old e)) (n + m) (xs ++ zcells m) ∧
      w.grownBy (w.drew.alloc (.cells (xs.toArray ++ (zcells m).toArray ++ Builtin.zeroCells (Value.int .u8 0).cells (grownCap w (n + m) old e - (n + m))) e)) row := by
    intro old ho row
    have hge := grownCap_ge w (n + m) old e
    have hcm : grownCap w (n + m) old e ≤ maxLen := grownCap_le_maxLen w (n + m) old e h63
    refine ⟨⟨hlen, .inr ⟨w.heap.size, _, _, rfl, hbase, heap_alloc_new w.drew _, hge, hcm, ?_, ?_⟩⟩, ⟨rfl, rfl, rfl, by simp, fun k hk _ => Below.heap_alloc w.drew _ k hk⟩⟩
    · have hz1 : (Value.int IntKind.u8 0).cells.size = 1 := rfl
      simp only [Array.size_append, List.size_toArray, size_zeroCells, hz1, hxl, zcells_len]
      omega
    · simp only [Array.toList_append, List.append_assoc]
      rw [← List.append_assoc, ← hlen]
      exact List.take_left
  rcases hown.2 with ⟨rfl, rfl⟩ | ⟨g, cap, cur, rfl, hbg, hg, hnc, hcm, hcs, htake⟩
  · have hx : xs = [] := List.eq_nil_of_length_eq_zero hxl
    subst hx
    by_cases hm : m = 0
    · subst hm
      refine ⟨.slice none 0 0, w, ?_, World.ownsRow_nil w base e 1, ⟨rfl, rfl, rfl, Nat.le_refl _, fun _ _ _ => rfl⟩, .inl rfl, none, 0, rfl⟩
      have hai0 : ∀ W : World, (asIntOf (.int .i64 0)).run P W = .ok (.i64, 0) W := fun _ => rfl
      have hw00 : IntKind.i64.wrap 0 = 0 := rfl
      simp [Builtin.append_, run_underlying ht, run_underlying hu, sizeOf, typeInfo, hi, hby, asInt, hai0, hw00]
    · have hgr := grown 0 (by omega) (Value.ownBlock (.slice none 0 0))
      simp only [Nat.zero_add, List.nil_append, Array.empty_append] at hgr ⊢
      refine ⟨_, _, ?_, hgr.1, hgr.2, .inr rfl, _, _, rfl⟩
      have h48 : ¬ (281474976710656 < Builtin.nextslicecap m 0) := by rw [nextslicecap_zero (by omega)]; omega
      have h63' : ¬ (9223372036854775807 < (m : Int)) := by omega
      have hm0 : ¬ (m = 0) := hm
      have hm1 : 0 < m := by omega
      simp [Builtin.append_, run_underlying ht, run_underlying hu, sizeOf, typeInfo, zeroValue, hi, hz, hsize, hby, asInt, hai, hw0, hneg, hbig, h48, h63', hm0, Question.forced, Builtin.firstCells, newRow, grownCap, zeroCells_z]
  · have hcs' : cur.size = cap := by simpa using hcs
    by_cases hroom : n + m ≤ cap
    · have hst := run_storeCells_at P g n e (zcells m) 0 cur w hg (by rw [zcells_len]; omega) (zcells_one m)
      simp only [Nat.add_zero, zcells_len] at hst
      refine ⟨.slice (some ⟨g, 0, none⟩) (n + m) cap, w.setRow g (cur.toList.take n ++ zcells m ++ cur.toList.drop (n + m)).toArray, ?_, ⟨hlen, .inr ⟨g, cap, _, rfl, hbg, setRow_heap w g cur _ e _ hg, hroom, hcm, ?_, ?_⟩⟩, ⟨rfl, rfl, rfl, by simp, fun k _ hk => setRow_other w g k _ (fun e => hk (by simp [Value.ownBlock, e]))⟩, .inl rfl, _, _, rfl⟩
      · by_cases hm : m = 0
        · subst hm
          have hai0 : ∀ W : World, (asIntOf (.int .i64 0)).run P W = .ok (.i64, 0) W := fun _ => rfl
          have hw00 : IntKind.i64.wrap 0 = 0 := rfl
          have hroom' : n ≤ cap := by omega
          simp only [zcells, List.replicate, List.append_nil, List.take_append_drop, Array.toArray_toList, Nat.add_zero] at hst
          simp [Builtin.append_, run_underlying ht, run_underlying hu, sizeOf, typeInfo, hi, hsize, hby, asInt, hai0, hw00, hroom', zcells, Addr.add_lit, hst]
        · simp [Builtin.append_, run_underlying ht, run_underlying hu, sizeOf, typeInfo, zeroValue, hi, hz, hsize, hby, asInt, hai, hw0, hneg, hbig, hm, hroom, zeroCells_z, Addr.add_lit, hst]
      · simp only [List.size_toArray, List.length_append, List.length_take, List.length_drop, Array.length_toList, zcells_len]
        omega
      · have ht' : cur.toList.take n = xs := by simpa using htake
        rw [ht', ← hlen]
        exact List.take_left
    · have holds : ∀ j u, xs[j]? = some u → w.cell? ((⟨g, 0, none⟩ : Addr).add j) = some u := hown.cells (g := g) rfl
      have hgr := grown cap (by omega) (Value.ownBlock (.slice (some ⟨g, 0, none⟩) n cap))
      refine ⟨_, _, ?_, hgr.1, hgr.2, .inr rfl, _, _, rfl⟩
      have h48 : ¬ (281474976710656 < Builtin.nextslicecap (n + m) cap) := by
        have := growslice_fits (need := n + m) (old := cap) (bytes := 1) (by omega) (by omega)
        omega
      have h63' : ¬ (9223372036854775807 < (n : Int) + (m : Int)) := by omega
      have hfo := run_firstCells_some (P := P) w.drew 1 n ⟨g, 0, none⟩ n cap xs (by simpa using hxl) (by simpa using holds)
      have hm0 : ¬ (m = 0) := by
        intro h; subst h
        exact hroom (by omega)
      simp [Builtin.append_, run_underlying ht, run_underlying hu, sizeOf, typeInfo, zeroValue, hi, hz, hsize, hby, asInt, hai, hw0, hneg, hbig, h48, h63', hm0, hroom, Question.forced, hfo, newRow, grownCap, zeroCells_z]

/-- an append at a plain region's list, whatever law says how it runs -/
theorem wp_append_by {o : Oper} {a : Act} {K : Act → World → Prop} {Q : Exit → Act → World → Prop} {R : Value → World → Prop} (s x : Operand) (ats : Array TypeId) (ho : o.op = .call { callee := .builtin .append, args := #[s, x], argTypes := ats })
    (v y : Value) (hs : a.eval s = v) (hx : a.eval x = y) (hex : ∃ v' w', (Builtin.append_ ats o.type #[v, y]).run P w = .ok v' w' ∧ R v' w') (h : ∀ v' w', R v' w' → K (a.put o.dst v') w') : o.wp P a w K Q := by
  obtain ⟨v', w', hr, hR⟩ := hex
  unfold Oper.wp execOp
  simp only [ho, resolve, invoke, builtin, Sem.run_bind, Sem.run_pure, Result.andThen_ok, List.map_toArray, List.map_cons, List.map_nil, hs, hx, hr]
  exact h v' w' hR
theorem wpList_append_by {ops : Array Oper} {rest : List Oper} {o : Oper} {a : Act} {Q : Exit → Act → World → Prop} {R : Value → World → Prop} (hgd : o.guard = none) (s x : Operand) (ats : Array TypeId) (ho : o.op = .call { callee := .builtin .append, args := #[s, x], argTypes := ats })
    (v y : Value) (hs : a.eval s = v) (hx : a.eval x = y) (hex : ∃ v' w', (Builtin.append_ ats o.type #[v, y]).run P w = .ok v' w' ∧ R v' w') (h : ∀ v' w', R v' w' → wpList P ops Q rest (a.put o.dst v') w') : wpList P ops Q (o :: rest) a w :=
  wpList_plain hgd fun _ hK => wp_append_by s x ats ho v y hs hx hex fun v' w' hR => hK _ _ (h v' w' hR)
theorem step_append_by {ops : Array Oper} {o : Oper} {a : Act} {K : Act → World → Prop} {Q : Exit → Act → World → Prop} {R : Value → World → Prop} {E : Prop} (hgd : o.guard = none) (s x : Operand) (ats : Array TypeId) (ho : o.op = .call { callee := .builtin .append, args := #[s, x], argTypes := ats })
    (v y : Value) (hs : a.eval s = v) (hx : a.eval x = y) (hex : ∃ v' w', (Builtin.append_ ats o.type #[v, y]).run P w = .ok v' w' ∧ R v' w') (h : ∀ v' w', R v' w' → K (a.put o.dst v') w') :
    if Region.wanted o (yielded ops a.tmps) = true then Oper.wp P o a w K Q else E := by
  have hw : Region.wanted o (yielded ops a.tmps) = true := by simp [Region.wanted, hgd]
  rw [if_pos hw]
  exact wp_append_by s x ats ho v y hs hx hex h
end
end Go.Proofs.YtapcjojlkeaadaaGreatDoor
