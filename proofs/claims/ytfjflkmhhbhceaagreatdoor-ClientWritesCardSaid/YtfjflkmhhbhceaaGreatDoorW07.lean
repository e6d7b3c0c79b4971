/-
  Layer 7, walks: something is done with each letter, till that is false. Conditions: what is done keeps iterators, and bears that the own one goes on.
-/
import Derived.Test.YtfjflkmhhbhceaaGreatDoorW05
import Derived.Test.YtfjflkmhhbhceaaGreatDoorW04
import Derived.Deep.Light
import Derived.Laws.Bits64b
import Derived.Test.YtfjflkmhhbhceaaGreatDoorProg
import Derived.Test.YtfjflkmhhbhceaaGreatDoorW02
namespace Go.Proofs.YtfjflkmhhbhceaaGreatDoor
open Go.RowKit
attribute [local go_sem ↓] Go.wp_at_zero Go.wp_at_succ
attribute [local go_sem] rowAt_ptr rowOf_drew rowOf_drewN rowOf_alloc_past rowOf_new

theorem lettersC_ascii : ∀ s ∈ lettersC, ∀ c ∈ s, c.toNat < 128 := by decide
theorem cFields_ascii (p : Int) {k : Nat} (hk : k < (cFields p).length) : (cFields p)[k].toNat < 128 := by
  have hm : (cFields p)[k] ∈ cFields p := List.getElem_mem hk
  generalize (cFields p)[k] = c at *
  unfold cFields at hm
  split at hm
  · simp at hm
  · rcases Nat.lt_or_ge p.toNat lettersC.length with h | h
    · have he : lettersC.getD p.toNat [] = lettersC[p.toNat] := by simp [List.getD, List.getElem?_eq_getElem h]
      rw [he] at hm
      exact lettersC_ascii _ (List.getElem_mem h) _ hm
    · simp [List.getD, List.getElem?_eq_none h] at hm
/-- where an iterator is -/
def itrPos (w : World) (b : Nat) : Nat := match w.heap[b]? with
  | some (.stringIter _ p) => p
  | _ => 0
theorem Itr.pos_ {w : World} {b : Nat} {l : List UInt8} {pos : Nat} (h : Itr w b l pos) : itrPos w b = pos := by
  unfold Itr at h
  simp [itrPos, h]
/-- what comes of each letter in turn -/
def EachPost (n : Nat) (ok : Nat → Bool) (S : Nat → World → Prop) (e : Ending) (w' : World) : Prop :=
  ∃ m, S m w' ∧ ((m = n ∧ (∀ j, j < n → ok j = true) ∧ e = .returned (.bool true)) ∨ (∃ j, m = j + 1 ∧ j < n ∧ (∀ i, i < j → ok i = true) ∧ ok j = false ∧ e = .returned (.bool false)))

set_option maxRecDepth 20000 in
set_option maxHeartbeats 1600000 in
theorem each_any (p : Int) (F : FuncId) (caps : List Value) (w : World) (ok : Nat → Bool) (S : Nat → World → Prop)
    (hcf : ∀ args W, (callFunc F args).run Tryz.prog W = .ok (.enter F args) W)
    (h0 : ∀ W, Below w.heap.size w W → S 0 W)
    (hset : ∀ k W b l pos pos', w.heap.size ≤ b → S k W → Itr W b l pos → S k (W.setIter b l pos'))
    (hcall : ∀ k (hk : k < (cFields p).length) W, S k W → Calls Tryz.prog F (.int .i32 (cFields p)[k].toNat :: caps).toArray W fun e W' => e = .returned (.bool (ok k)) ∧ S (k + 1) W' ∧ ∀ b l pos, Itr W b l pos → Itr W' b l pos) :
    Calls Tryz.prog 77 #[.int .i64 p, .func (.func F) #[] caps.toArray] w (EachPost (cFields p).length ok S) := by
  have hasc := fun k hk => cFields_ascii p (k := k) hk
  have hfld := callFields_any p
  generalize cFields p = l at *
  go_enter Tryz.func77, Tryz.ntmps77
  go_wp2_with fail
  refine (hfld _).mono ?_
  rintro e w1 ⟨rfl, hb⟩
  have hI := Itr.new w1 l
  have hS := h0 _ (hb.alloc hb.size (.stringIter (bs l) 0))
  change S 0 (w1.iter (bs l) 0) at hS
  have hlt := hb.size
  clear hfld h0 hb
  go_wp2
  generalize w1.iter (bs l) 0 = w2 at *
  generalize w1.heap.size = b at *
  go_loopw [6] (fun _ wr => ∃ k : Nat, k ≤ l.length ∧ (∀ j, j < k → ok j = true) ∧ S k wr ∧ Itr wr b l k) (fun _ wr => l.length - itrPos wr b)
  case atStart => exact ⟨0, Nat.zero_le _, fun _ h => absurd h (Nat.not_lt_zero _), hS, hI⟩
  case round =>
    clear hS hI
    obtain ⟨k, hk, hok, hS, hI⟩ := hrel
    by_cases hlk : k < l.length
    · have hn := fun ty => run_next_itr (P := Tryz.prog) hI hlk (hasc k hlk) ty
      have hS2 := hset k _ b l k (k + 1) hlt hS hI
      have hI2 := hI.set_ (k + 1)
      go_wp2_with fail
      have hcl := hcall k hlk _ hS2
      refine hcl.mono ?_
      · rintro e w4 ⟨rfl, hS3, hit⟩
        have hI3 := hit _ _ _ hI2
        cases hb : ok k with
        | true =>
          have HP := Lib.hid (show ∀ j, j < k + 1 → ok j = true from fun j hj => by
            rcases Nat.lt_or_ge j k with h | h
            · exact hok j h
            · obtain rfl : j = k := by omega
              exact hb)
          have hp := hI.pos_
          have hp3 := hI3.pos_
          clear hn hS hI hS2 hI2 hit hok hset hcall
          go_wp2
          go_roundw
          case rel => exact ⟨k + 1, by omega, HP.out, hS3, hI3⟩
          case measure => rw [hp, hp3]; omega
        | false =>
          clear hn hS hI hS2 hI2 hit hset hcall
          go_wp2
          go_ret
          exact ⟨k + 1, hS3, .inr ⟨k, rfl, hlk, hok, hb, rfl⟩⟩
    · have hn := fun ty => run_next_itr_end (P := Tryz.prog) hI hlk ty
      obtain rfl : k = l.length := by omega
      go_wp2
      go_ret
      exact ⟨l.length, hS, .inl ⟨rfl, hok, rfl⟩⟩
end Go.Proofs.YtfjflkmhhbhceaaGreatDoor

/-
  Layer 1, walks: a reader takes bytes. Conditions: a reader at a block of its own; texts are machine texts.
-/
namespace Go.Proofs.YtfjflkmhhbhceaaGreatDoor
open Go.RowKit
attribute [local go_sem ↓] Go.wp_at_zero Go.wp_at_succ
attribute [local go_sem] rowAt_ptr rowOf_drew rowOf_drewN rowOf_alloc_past rowOf_new
attribute [local go_sem] bs_take bs_drop

/-- the reader has come to this; all else that was there is as it was -/
def Reads (g : Nat) (r : Rs) (w w' : World) : Prop := Rd w' g r ∧ Touch (fun k => k = g) w w'
def Gave (g : Nat) (r : Rs) (v : Value) (w : World) (e : Ending) (w' : World) : Prop := e = .returned v ∧ Reads g r w w'
theorem Rd.lt {w : World} {g : Nat} {r : Rs} (h : Rd w g r) : g < w.heap.size := h.1.lt
theorem Reads.refl {w : World} {g : Nat} {r : Rs} (h : Rd w g r) : Reads g r w w := ⟨h, Touch.refl _ _⟩
theorem Reads.trans {a b c : World} {g : Nat} {r r' : Rs} (h : Reads g r a b) (k : Reads g r' b c) : Reads g r' a c := ⟨k.1, h.2.then_ k.2⟩
theorem Rd.stays {w w' : World} {g : Nat} {r : Rs} (h : Rd w g r) (hb : Below w.heap.size w w') : Rd w' g r := ⟨h.1.stays hb, h.2⟩
theorem Rd.touch {w w' : World} {g : Nat} {r : Rs} {F : Nat → Prop} (h : Rd w g r) (ht : Touch F w w') (hn : ¬ F g) : Rd w' g r := ⟨h.1.touch ht hn, h.2⟩
/-- memory is made, then the reader is read -/
theorem Reads.behind {a b c : World} {g : Nat} {r : Rs} (h : Below a.heap.size a b) (k : Reads g r b c) : Reads g r a c := ⟨k.1, (Touch.of_below h _).then_ k.2⟩
theorem Reads.new {a b c : World} {g : Nat} {r : Rs} (h : Reads g r a b) (k : Below b.heap.size b c) : Reads g r a c := ⟨h.1.stays k, h.2.then_ (Touch.of_below k _)⟩
theorem Reads.size {a b : World} {g : Nat} {r : Rs} (h : Reads g r a b) : a.heap.size ≤ b.heap.size := h.2.size
/-- another block stands while the reader is read -/
theorem Reads.keeps {a b : World} {g : Nat} {r : Rs} (h : Reads g r a b) {k : Nat} {T : TypeId} {cs : List Value} (hb : Blk a k T cs) (hk : k ≠ g) : Blk b k T cs := hb.touch h.2 hk
theorem Reads.below {a b : World} {g B : Nat} {r : Rs} (h : Reads g r a b) (hg : B ≤ g) (hB : B ≤ a.heap.size) : Below B a b := h.2.below (fun k _ hk => by subst hk; exact hg) hB
theorem Touch.setCell_ {F : Nat → Prop} {a b : World} (h : Touch F a b) {g o : Nat} (hp : F g ∨ a.heap.size ≤ g) (u : Value) : Touch F a (b.setCell ⟨g, o, none⟩ u) := h.setCell (p := ⟨g, o, none⟩) hp u

theorem Touch.setCells {F : Nat → Prop} {a : World} {g : Nat} (hp : F g ∨ a.heap.size ≤ g) : ∀ (vs : List Value) (o : Nat) (b : World), Touch F a b → Touch F a (b.setCells g o vs)
  | [], _, _, h => h
  | v :: vs, o, b, h => by
    rw [World.setCells]
    exact Touch.setCells hp vs (o + 1) _ (h.setCell_ hp v)
/-- a whole struct is laid into a block of the call's own while a reader is read -/
theorem Reads.lay {w wx : World} {g b : Nat} {r : Rs} {T : TypeId} {old cs : List Value} (h : Reads g r w wx) (hb : Blk wx b T old) (hl : old.length = cs.length) (hne : b ≠ g) (hB : w.heap.size ≤ b) : Reads g r w (wx.setCells b 0 cs) ∧ Blk (wx.setCells b 0 cs) b T cs :=
  ⟨⟨⟨Blk.farCells hne.symm cs 0 wx h.1.1, h.1.2⟩, Touch.setCells (.inr hB) cs 0 wx h.2⟩, hb.whole hl⟩

theorem rErr_any (g : Nat) (r : Rs) (w : World) (hR : Rd w g r) : Calls Tryz.prog 100 #[.pointer (some ⟨g, 0, none⟩)] w fun e w' => e = .returned (.int .i64 r.e) ∧ w = w' := by
  have hc := hR.1.cell
  go_enter Tryz.func100, Tryz.ntmps100
  go_wp2
  go_ret
  exact ⟨rfl, rfl⟩
theorem rFail_any (g : Nat) (r : Rs) (n : Int) (w : World) (hR : Rd w g r) : Calls Tryz.prog 173 #[.pointer (some ⟨g, 0, none⟩), .int .i64 n] w (Gave g (Rs.fail n) (.tuple #[]) w) := by
  have hc := hR.1.cell
  have hf := hR.1.frozen
  have hB := Lib.hid ((hR.1.set_ 0 (.string (bs []))).set_ 1 (.int .i64 n))
  have hT := Lib.hid (((Touch.refl (fun k => k = g) w).setCell_ (g := g) (o := 0) (.inl rfl) (.string (bs []))).setCell_ (g := g) (o := 1) (.inl rfl) (.int .i64 n))
  clear hR
  go_enter Tryz.func173, Tryz.ntmps173
  go_wp2
  go_end0
  exact ⟨rfl, ⟨hB.out, fun _ => rfl⟩, hT.out⟩

set_option maxHeartbeats 800000 in
theorem take_err (g : Nat) (r : Rs) (n : Nat) (f : Value) (w : World) (hR : Rd w g r) (he : r.e ≠ 0) : Calls Tryz.prog 171 #[.pointer (some ⟨g, 0, none⟩), .int .i64 n, f] w fun e w' => e = .returned (.tuple #[]) ∧ w = w' := by
  have he' : (r.e != 0) = true := by simpa using he
  have HR := Lib.hid hR
  clear hR he
  go_enter Tryz.func171, Tryz.ntmps171
  go_wp2_with fail
  refine (rErr_any g r _ HR.out).mono ?_
  rintro e w1 ⟨rfl, rfl⟩
  go_wp2
  exact bodyPost_ret (results_none Tryz.results171 _ _ _) rfl ⟨rfl, rfl⟩

set_option maxHeartbeats 800000 in
theorem take_short (g : Nat) (s : List UInt8) (n : Nat) (f : Value) (w : World) (hR : Rd w g ⟨s, 0⟩) (hs : s.length < n) : Calls Tryz.prog 171 #[.pointer (some ⟨g, 0, none⟩), .int .i64 n, f] w (Gave g (Rs.fail 10) (.tuple #[]) w) := by
  have hc := hR.1.cell
  have hsz := bs_size s
  have HR := Lib.hid hR
  clear hR
  go_enter Tryz.func171, Tryz.ntmps171
  go_wp2_with fail
  refine (rErr_any g ⟨s, 0⟩ _ HR.out).mono ?_
  rintro e w1 ⟨rfl, rfl⟩
  go_wp2_with fail
  refine (rFail_any g ⟨s, 0⟩ 10 _ HR.out).mono ?_
  rintro e w2 ⟨rfl, hQ⟩
  go_wp2
  exact bodyPost_ret (results_none Tryz.results171 _ _ _) rfl ⟨rfl, hQ⟩

set_option maxHeartbeats 1600000 in
theorem take_ok (g : Nat) (s : List UInt8) (n f : Nat) (cap : Array Value) (w : World) (hR : Rd w g ⟨s, 0⟩) (hs : n ≤ s.length) (_hl : s.length ≤ 9223372036854775807) (hcf : ∀ (args : Array Value) (w : World), (callFunc f args).run Tryz.prog w = .ok (.enter f args) w) {Q : World → World → Prop}
    (hdo : ∀ w1, Reads g ⟨s.drop n, 0⟩ w w1 → Calls Tryz.prog f (#[.string (bs (s.take n))] ++ cap) w1 fun e w' => e = .returned (.tuple #[]) ∧ Q w1 w') :
    Calls Tryz.prog 171 #[.pointer (some ⟨g, 0, none⟩), .int .i64 n, .func (.func f) #[] cap] w fun e w' => ∃ w1, e = .returned (.tuple #[]) ∧ Reads g ⟨s.drop n, 0⟩ w w1 ∧ Q w1 w' := by
  have hc := hR.1.cell
  have hf := hR.1.frozen
  have hsz := bs_size s
  have HR := Lib.hid hR
  have HD := Lib.hid hdo
  clear hR hdo
  go_enter Tryz.func171, Tryz.ntmps171
  go_wp2_with fail
  refine (rErr_any g ⟨s, 0⟩ _ HR.out).mono ?_
  rintro e w1 ⟨rfl, rfl⟩
  go_wp2_with fail
  have hS := ((HR.out.1.set_ 0 (.string (bs (s.drop n)))))
  have hT := ((Touch.refl (fun k => k = g) w).setCell_ (g := g) (o := 0) (.inl rfl) (.string (bs (s.drop n))))
  have HQ := Lib.hid (show Reads g ⟨s.drop n, 0⟩ w (w.setCell ⟨g, 0, none⟩ (.string (bs (s.drop n)))) from ⟨⟨hS, fun h => absurd rfl h⟩, hT⟩)
  clear hS hT
  refine (HD.out _ HQ.out).mono ?_
  rintro e w2 ⟨rfl, hq⟩
  have HQ2 := Lib.hid hq
  clear hq
  go_wp2
  go_end0
  exact ⟨_, rfl, HQ.out, HQ2.out⟩

/-- '[]byte(s)' -/
def rowsU8 (l : List UInt8) : List (List Value) := l.map fun c => [u8 c]
theorem conv_bytes {P : Program} (w : World) (src dst e : TypeId) (l : List UInt8) (hs : P.underlying src = some .string) (hd : P.underlying dst = some (.slice e)) (he : P.underlying e = some (.int .u8)) :
    ∃ cap W', (convert src dst (.string (bs l))).run P w = .ok (.slice (some ⟨w.heap.size, 0, none⟩) l.length cap) W' ∧ At W' 1 (some ⟨w.heap.size, 0, none⟩) (rowsU8 l) ∧ Below w.heap.size w W' ∧ w.heap.size < W'.heap.size := by
  refine ⟨_, _, run_bytes_of_string w src dst e (bs l) hs hd he, ?_, ((Below.refl _ _).drew).alloc (Nat.le_refl _) _, by simp⟩
  intro i r hr
  simp only [rowsU8, List.getElem?_map, Option.map_eq_some_iff] at hr
  obtain ⟨c, hc, rfl⟩ := hr
  have hi : i < l.length := (List.getElem?_eq_some_iff.1 hc).1
  refine ⟨w.heap.size, 0, rfl, by simp, fun j u hu => ?_⟩
  obtain rfl : j = 0 := by
    have := (List.getElem?_eq_some_iff.1 hu).1
    simp at this
    exact this
  simp only [List.getElem?_cons_zero, Option.some.injEq] at hu
  subst hu
  have h1 := World.cell?_alloc_mark w.drew (bytesRow (bs l) (grownCap w (bs l).size 0 e)) e ((bytesRow (bs l) (grownCap w (bs l).size 0 e)).size, (bytesRow (bs l) (grownCap w (bs l).size 0 e)).size + 1) i
  have h2 := bytesRow_at (bs l) (grownCap w (bs l).size 0 e) i (by simpa using hi)
  have h3 : (bs l).data[i]'(by simpa using hi) = c := by
    have := (List.getElem?_eq_some_iff.1 hc).2
    simpa using this
  rw [h3] at h2
  simpa [Nat.mul_one, u8] using h1.trans h2
theorem rowsU8_cell {w : World} {b : Nat} {l : List UInt8} (h : At w 1 (some ⟨b, 0, none⟩) (rowsU8 l)) {k : Nat} (hk : k < l.length) : w.cell? ⟨b, k, none⟩ = some (.int .u8 (l[k].toNat : Int)) := by
  obtain ⟨b', off, he, -, hc⟩ := h.getD (k := k) (by simpa [rowsU8] using hk)
  injection he with he
  injection he with h1 h2
  subst h1; subst h2
  have := hc 0 (u8 l[k]) (by simp [rowsU8])
  simpa [u8] using this

theorem or_step (v c : Nat) (hv : v < 72057594037927936) (hc : c < 256) : bits .or .u64 (IntKind.u64.wrap ((v : Int) * 256)) (IntKind.u64.wrap (c : Int)) = ((v * 256 + c : Nat) : Int) := by
  have e1 : IntKind.u64.wrap ((v : Int) * 256) = ((v * 256 : Nat) : Int) := by rw [IntKind.wrap_u64]; omega
  have e2 : IntKind.u64.wrap (c : Int) = (c : Int) := by rw [IntKind.wrap_u64]; omega
  rw [e1, e2, bits_or_u64_nat _ _ (by omega) (by omega)]
  congr 1
  have := Nat.shiftLeft_add_eq_or_of_lt (i := 8) (b := c) (by omega) v
  rw [Nat.shiftLeft_eq, show (2 : Nat) ^ 8 = 256 from rfl] at this
  omega

set_option maxRecDepth 20000 in
set_option maxHeartbeats 1600000 in
theorem rNumber1_any (b : Nat) (l : List UInt8) (w : World) (hB : Blk w b 202 [.int .u64 0]) (hl : l.length ≤ 8) :
    Calls Tryz.prog 172 #[.string (bs l), .pointer (some ⟨b, 0, none⟩)] w fun e w' => e = .returned (.tuple #[]) ∧ Blk w' b 202 [.int .u64 (beVal l)] ∧ Touch (fun k => k = b) w w' := by
  have hsz := bs_size l
  obtain ⟨cap, W1, hrun, hA, hb1, hlt1⟩ := conv_bytes (P := Tryz.prog) w 9 124 5 l Tryz.underlying9 Tryz.underlying124 Tryz.underlying5
  have hB1 := hB.stays hb1
  have hT1 := Touch.of_below hb1 (fun k => k = b)
  have hne : w.heap.size ≠ b := Nat.ne_of_gt hB.lt
  clear hb1 hB
  go_enter Tryz.func172, Tryz.ntmps172
  go_wp2
  go_loopw [8] (fun i wr => ∃ (k : Nat), k ≤ l.length ∧ i = .int .i64 k ∧ Blk wr b 202 [.int .u64 (beVal (l.take k))] ∧ Touch (fun j => j = b) w wr ∧ At wr 1 (some ⟨w.heap.size, 0, none⟩) (rowsU8 l)) (fun i _ => l.length - (intOf i).toNat)
  case atStart =>
    exact ⟨0, Nat.zero_le _, rfl, hB1, hT1, hA⟩
  case round =>
    clear hA hB1 hT1
    obtain ⟨k, hk, rfl, hb, hT, hA⟩ := hrel
    by_cases hlt : k < l.length
    · have hc1 := rowsU8_cell hA hlt
      have hc0 := hb.cell
      have hf0 := hb.frozen
      have hv : beVal (l.take k) < 72057594037927936 := by
        have h1 := beVal_lt (l.take k)
        have h2 : (l.take k).length ≤ 7 := by simp; omega
        have h3 := Nat.pow_le_pow_right (n := 256) (by omega) h2
        omega
      have hor := or_step (beVal (l.take k)) l[k].toNat hv (by have := l[k].toNat_lt; omega)
      have HS := Lib.hid (show beVal (l.take (k + 1)) = beVal (l.take k) * 256 + l[k].toNat by rw [List.take_succ_eq_append_getElem hlt, beVal_snoc])
      have HB := Lib.hid (hb.set_ 0 (.int .u64 ((beVal (l.take k) * 256 + l[k].toNat : Nat) : Int)))
      have HT := Lib.hid (hT.setCell_ (g := b) (o := 0) (.inl rfl) (.int .u64 ((beVal (l.take k) * 256 + l[k].toNat : Nat) : Int)))
      have HA := Lib.hid (hA.touch ((Touch.refl (fun j => j = b) wr).setCell_ (g := b) (o := 0) (.inl rfl) (.int .u64 ((beVal (l.take k) * 256 + l[k].toNat : Nat) : Int))) (fun b' off he => by injection he with he; injection he with h1 h2; omega))
      clear hb hT hA hv
      go_wp2
      go_roundw
      case rel => exact ⟨k + 1, by omega, by go_num, by rw [HS.out]; exact HB.out, HT.out, HA.out⟩
      case measure => simp [intOf]; omega
    · have HE := Lib.hid hb
      obtain rfl : k = l.length := by omega
      rw [List.take_length] at HE
      go_wp2
      go_end0
      exact ⟨rfl, HE.out, hT⟩
end Go.Proofs.YtfjflkmhhbhceaaGreatDoor


/-
  Memory words for regions that draw their order and read by one reader. No condition.
-/
namespace Go.Proofs.YtfjflkmhhbhceaaGreatDoor
open Go.RowKit
/-- what holds of every world that such a region comes through, that began in w, with the reader at block g -/
abbrev StQ (g : Nat) (w W : World) : Prop := (∀ b o, b < w.heap.size → b ≠ g → W.cell? ⟨b, o, none⟩ = w.cell? ⟨b, o, none⟩) ∧ (∀ b o n, b < w.heap.size → b ≠ g → rowOf W b o n = rowOf w b o n) ∧ Touch (fun k => k = g) w W
theorem StQ.of {g : Nat} {w W : World} (h : Touch (fun k => k = g) w W) : StQ g w W := ⟨fun _ _ hb hn => h.cell hb hn, fun _ _ _ hb hn => h.row hb hn _ _, h⟩
theorem StQ.start {g : Nat} {w : World} : StQ g w w.drew := StQ.of (Touch.refl _ _).drew
theorem StQ.call {g : Nat} {w W W' : World} (h : StQ g w W) (hb : Touch (fun k => k = g) W W') : StQ g w W' := StQ.of (h.2.2.then_ hb)
theorem StQ.alloc {g : Nat} {w W : World} (h : StQ g w W) (o : Obj) : StQ g w (W.alloc o) := StQ.of (h.2.2.alloc o)
theorem Rd.drewQ {w : World} {g : Nat} {r : Rs} (h : Rd w g r) : Rd w.drew g r := h
end Go.Proofs.YtfjflkmhhbhceaaGreatDoor


/-
  Layer 8, walks: which letters a procedure's results have (written by wip/tools/genfields8.py). No condition.
-/
namespace Go.Proofs.YtfjflkmhhbhceaaGreatDoor
open Go.RowKit
attribute [local go_sem ↓] Go.wp_at_zero Go.wp_at_succ
attribute [local go_sem] rowAt_ptr rowOf_drew rowOf_drewN rowOf_alloc_past rowOf_new

def lettersP : List (List UInt8) := [[], [97], [119], [104, 97, 68], [97, 120], [97, 100], [97, 101, 100], [119, 99, 115, 118], [104, 97, 119], [104, 97, 119], [104, 97, 119], [104, 97, 119], [119], [119], [119, 87], [97, 87], [97, 118, 108, 101], [97, 118, 112, 101], [97, 110], [97, 110], [97, 110], [119, 118]]
def lettersQ : List (List UInt8) := [[], [], [119], [68], [97], [97], [97], [119], [119], [119], [119], [119], [119], [119], [119, 87], [97, 87], [97], [97], [97], [97], [97], [119]]
def lettersPQ (fine : Bool) : List (List UInt8) := if fine then lettersP else lettersQ
/-- the letters of a procedure's results -/
def pFields (p : Int) (fine : Bool) : List UInt8 := if p < 0 then [] else (lettersPQ fine).getD p.toNat []
theorem pFields_cases (p : Int) : p < 0 ∨ 22 ≤ p ∨ p = 0 ∨ p = 1 ∨ p = 2 ∨ p = 3 ∨ p = 4 ∨ p = 5 ∨ p = 6 ∨ p = 7 ∨ p = 8 ∨ p = 9 ∨ p = 10 ∨ p = 11 ∨ p = 12 ∨ p = 13 ∨ p = 14 ∨ p = 15 ∨ p = 16 ∨ p = 17 ∨ p = 18 ∨ p = 19 ∨ p = 20 ∨ p = 21 := by omega
theorem pFields_low {p : Int} {fine : Bool} (h : p < 0) : pFields p fine = [] := by simp [pFields, h]
theorem pFields_high {p : Int} {fine : Bool} (h : 22 ≤ p) : pFields p fine = [] := by
  have h1 : ¬ p < 0 := by omega
  have h2 : (lettersPQ fine).length ≤ p.toNat := by
    have : (lettersPQ fine).length = 22 := by cases fine <;> rfl
    omega
  simp [pFields, h1, List.getD, List.getElem?_eq_none h2]

set_option maxHeartbeats 1600000 in
theorem refused_any (p : Int) (w : World) : Calls Tryz.prog 141 #[.int .i64 p] w fun e w' => e = .returned (.string (bs (pFields p false))) ∧ Below w.heap.size w w' := by
  rcases pFields_cases p with hlo | hhi | rfl | rfl | rfl | rfl | rfl | rfl | rfl | rfl | rfl | rfl | rfl | rfl | rfl | rfl | rfl | rfl | rfl | rfl | rfl | rfl | rfl | rfl
  · rw [pFields_low hlo]
    go_enter Tryz.func141, Tryz.ntmps141
    go_wp2
    all_goals first
      | (go_ret; exact ⟨rfl, Below.refl _ _⟩)
      | (exfalso; omega)
  · rw [pFields_high hhi]
    have hlo : ¬ p < 0 := by omega
    go_enter Tryz.func141, Tryz.ntmps141
    go_wp2
    all_goals first
      | (go_ret; exact ⟨rfl, Below.refl _ _⟩)
      | (exfalso; omega)
  all_goals
    go_enter Tryz.func141, Tryz.ntmps141
    go_wp2
    go_ret
    exact ⟨rfl, Below.refl _ _⟩

set_option maxHeartbeats 1600000 in
theorem replyFieldsT_any (p : Int) (w : World) : Calls Tryz.prog 102 #[.int .i64 p, .bool true] w fun e w' => e = .returned (.string (bs (pFields p true))) ∧ Below w.heap.size w w' := by
  rcases pFields_cases p with hlo | hhi | rfl | rfl | rfl | rfl | rfl | rfl | rfl | rfl | rfl | rfl | rfl | rfl | rfl | rfl | rfl | rfl | rfl | rfl | rfl | rfl | rfl | rfl
  · rw [pFields_low hlo]
    go_enter Tryz.func102, Tryz.ntmps102
    go_wp2
    all_goals first
      | (go_ret; exact ⟨rfl, Below.refl _ _⟩)
      | (exfalso; omega)
  · rw [pFields_high hhi]
    go_enter Tryz.func102, Tryz.ntmps102
    go_wp2
    all_goals first
      | (go_ret; exact ⟨rfl, Below.refl _ _⟩)
      | (exfalso; omega)
  all_goals
    go_enter Tryz.func102, Tryz.ntmps102
    go_wp2
    go_ret
    exact ⟨rfl, Below.refl _ _⟩

theorem replyFields_any (p : Int) (fine : Bool) (w : World) : Calls Tryz.prog 102 #[.int .i64 p, .bool fine] w fun e w' => e = .returned (.string (bs (pFields p fine))) ∧ Below w.heap.size w w' := by
  cases fine
  · have hr := refused_any p w
    generalize pFields p false = l at *
    go_enter Tryz.func102, Tryz.ntmps102
    go_wp2_with fail
    refine hr.mono ?_
    rintro e w1 ⟨rfl, hb1⟩
    go_wp2
    go_ret
    exact ⟨rfl, hb1⟩
  · exact replyFieldsT_any p w
end Go.Proofs.YtfjflkmhhbhceaaGreatDoor


/-
  Layer 8, walks: which statuses are known (written by wip/tools/genfields8.py). No condition.
-/
namespace Go.Proofs.YtfjflkmhhbhceaaGreatDoor
open Go.RowKit
attribute [local go_sem ↓] Go.wp_at_zero Go.wp_at_succ
attribute [local go_sem] rowAt_ptr rowOf_drew rowOf_drewN rowOf_alloc_past rowOf_new

def statsP : List Int := [0, 1, 2, 13, 17, 20, 21, 22, 27, 28, 31, 63, 66, 69, 70, 10001, 10002, 10003, 10005, 10007]
/-- is a status known -/
def pKnown (s : Int) : Bool := statsP.contains s
set_option maxHeartbeats 1600000 in
theorem replyKnown_any (s : Int) (w : World) : Calls Tryz.prog 101 #[.int .i64 s] w fun e w' => e = .returned (.bool (pKnown s)) ∧ Below w.heap.size w w' := by
  by_cases h : s ∈ statsP
  · have HV := Lib.hid (show pKnown s = true from List.contains_iff_mem.2 h)
    simp only [statsP, List.mem_cons, List.not_mem_nil, or_false] at h
    rcases h with rfl | rfl | rfl | rfl | rfl | rfl | rfl | rfl | rfl | rfl | rfl | rfl | rfl | rfl | rfl | rfl | rfl | rfl | rfl | rfl
    all_goals
      go_enter Tryz.func101, Tryz.ntmps101
      go_wp2
      go_ret
      rw [HV.out]
      exact ⟨rfl, Below.refl _ _⟩
  · have HV := Lib.hid (show pKnown s = false by rw [pKnown, ← Bool.not_eq_true, List.contains_iff_mem]; exact h)
    simp only [statsP, List.mem_cons, List.not_mem_nil, or_false, not_or] at h
    obtain ⟨n0, n1, n2, n3, n4, n5, n6, n7, n8, n9, n10, n11, n12, n13, n14, n15, n16, n17, n18, n19⟩ := h
    have b0 : (s == 0) = false := beq_false_of_ne n0
    have b1 : (s == 1) = false := beq_false_of_ne n1
    have b2 : (s == 2) = false := beq_false_of_ne n2
    have b3 : (s == 13) = false := beq_false_of_ne n3
    have b4 : (s == 17) = false := beq_false_of_ne n4
    have b5 : (s == 20) = false := beq_false_of_ne n5
    have b6 : (s == 21) = false := beq_false_of_ne n6
    have b7 : (s == 22) = false := beq_false_of_ne n7
    have b8 : (s == 27) = false := beq_false_of_ne n8
    have b9 : (s == 28) = false := beq_false_of_ne n9
    have b10 : (s == 31) = false := beq_false_of_ne n10
    have b11 : (s == 63) = false := beq_false_of_ne n11
    have b12 : (s == 66) = false := beq_false_of_ne n12
    have b13 : (s == 69) = false := beq_false_of_ne n13
    have b14 : (s == 70) = false := beq_false_of_ne n14
    have b15 : (s == 10001) = false := beq_false_of_ne n15
    have b16 : (s == 10002) = false := beq_false_of_ne n16
    have b17 : (s == 10003) = false := beq_false_of_ne n17
    have b18 : (s == 10005) = false := beq_false_of_ne n18
    have b19 : (s == 10007) = false := beq_false_of_ne n19
    clear n0 n1 n2 n3 n4 n5 n6 n7 n8 n9 n10 n11 n12 n13 n14 n15 n16 n17 n18 n19
    go_enter Tryz.func101, Tryz.ntmps101
    go_wp2
    go_ret
    rw [HV.out]
    exact ⟨rfl, Below.refl _ _⟩

end Go.Proofs.YtfjflkmhhbhceaaGreatDoor


/-
  Layer 1, walks: a reader takes numbers, truths and options. Conditions: a reader at a block of its own; texts are machine texts.
-/
namespace Go.Proofs.YtfjflkmhhbhceaaGreatDoor
open Go.RowKit
attribute [local go_sem ↓] Go.wp_at_zero Go.wp_at_succ
attribute [local go_sem] rowAt_ptr rowOf_drew rowOf_drewN rowOf_alloc_past rowOf_new

theorem callNumber1 (args : Array Value) (w : World) : (callFunc 172 args).run Tryz.prog w = .ok (.enter 172 args) w := by kernel_rfl
theorem rNum_err {k : Nat} {r : Rs} (h : r.e ≠ 0) : rNum k r = (0, r) := by simp [rNum, h]
theorem rNum_short {k : Nat} {s : List UInt8} (h : s.length < k) : rNum k ⟨s, 0⟩ = (0, Rs.fail 10) := by simp [rNum, h]
theorem rNum_ok {k : Nat} {s : List UInt8} (h : k ≤ s.length) : rNum k ⟨s, 0⟩ = (beVal (s.take k), ⟨s.drop k, 0⟩) := by
  have : ¬ s.length < k := by omega
  simp [rNum, this]

set_option maxHeartbeats 1600000 in
theorem rNumber_any (g k : Nat) (r : Rs) (w : World) (hR : Rd w g r) (hk : k ≤ 8) (hl : r.s.length ≤ 9223372036854775807) :
    Calls Tryz.prog 140 #[.pointer (some ⟨g, 0, none⟩), .int .i64 k] w (Gave g (rNum k r).2 (.int .u64 (rNum k r).1) w) := by
  have hb := Blk.new w 202 [.int .u64 0]
  have hB : Below w.heap.size w (w.alloc (.cells #[.int .u64 0] 202)) := (Below.refl _ _).alloc (Nat.le_refl _) _
  have hR1 := hR.stays hB
  have hne : w.heap.size ≠ g := Nat.ne_of_gt hR.lt
  clear hR
  by_cases he : r.e = 0
  · obtain ⟨s, e⟩ := r
    simp only at he hl
    subst he
    by_cases hs : s.length < k
    · have HN := Lib.hid (rNum_short hs)
      go_enter Tryz.func140, Tryz.ntmps140
      go_wp2_with fail
      generalize w.alloc (.cells #[.int .u64 0] 202) = w0 at *
      refine (take_short g s k _ _ hR1 hs).mono ?_
      rintro e w1 ⟨rfl, hQ⟩
      have hb1 := hQ.keeps hb hne
      have hc := hb1.cell
      have HQ := Lib.hid (Reads.behind hB hQ)
      clear hQ hb hb1
      go_wp2
      go_ret
      rw [HN.out]
      exact ⟨rfl, HQ.out⟩
    · have HN := Lib.hid (rNum_ok (k := k) (s := s) (by omega))
      have hlt : (s.take k).length ≤ 8 := by simp; omega
      go_enter Tryz.func140, Tryz.ntmps140
      go_wp2_with fail
      generalize w.alloc (.cells #[.int .u64 0] 202) = w0 at *
      refine (take_ok g s k 172 #[.pointer (some ⟨w.heap.size, 0, none⟩)] _ hR1 (by omega) hl callNumber1 (fun w1 hQ => rNumber1_any w.heap.size (s.take k) w1 (hQ.keeps hb hne) hlt)).mono ?_
      rintro e w2 ⟨w1, rfl, hQ, hb2, hT2⟩
      have hc := hb2.cell
      have HQ := Lib.hid (show Reads g ⟨s.drop k, 0⟩ w w2 from ⟨hQ.1.touch hT2 (fun h => hne h.symm), ((Touch.of_below hB _).then_ hQ.2).trans hT2 (fun i hi h => by omega)⟩)
      clear hQ hb hb2 hT2
      go_wp2
      go_ret
      rw [HN.out]
      exact ⟨rfl, HQ.out⟩
  · have HN := Lib.hid (rNum_err (k := k) he)
    have HE := Lib.hid he
    clear he
    go_enter Tryz.func140, Tryz.ntmps140
    go_wp2_with fail
    generalize w.alloc (.cells #[.int .u64 0] 202) = w0 at *
    refine (take_err g r k _ _ hR1 HE.out).mono ?_
    rintro e w1 ⟨rfl, rfl⟩
    have hc := hb.cell
    have HQ := Lib.hid (Reads.behind hB (Reads.refl hR1))
    clear hb
    go_wp2
    go_ret
    rw [HN.out]
    exact ⟨rfl, HQ.out⟩

theorem rNum_lt {k : Nat} {r : Rs} (_h : r.s.length ≤ 9223372036854775807) : (rNum k r).1 < 256 ^ k ∧ (rNum k r).2.s.length ≤ r.s.length := by
  unfold rNum
  split
  · exact ⟨Nat.pow_pos (by omega), Nat.le_refl _⟩
  · split
    · exact ⟨Nat.pow_pos (by omega), by simp [Rs.fail]⟩
    · have := beVal_lt (r.s.take k)
      rw [List.length_take, Nat.min_eq_left (by omega)] at this
      exact ⟨this, by simp⟩

set_option maxHeartbeats 800000 in
theorem rU32_any (g : Nat) (r : Rs) (w : World) (hR : Rd w g r) (hl : r.s.length ≤ 9223372036854775807) :
    Calls Tryz.prog 99 #[.pointer (some ⟨g, 0, none⟩)] w (Gave g (rU32 r).2 (.int .i64 (rU32 r).1) w) := by
  have hlt : (rNum 4 r).1 < 4294967296 := (rNum_lt (k := 4) hl).1
  have hcv : IntKind.i64.wrap ((rNum 4 r).1 : Int) = (rNum 4 r).1 := IntWalk.i64_in _ (by omega)
  go_enter Tryz.func99, Tryz.ntmps99
  go_wp2_with fail
  refine (rNumber_any g 4 r _ hR (by omega) hl).mono ?_
  rintro e w1 ⟨rfl, hQ⟩
  go_wp2
  go_ret
  exact ⟨rfl, hQ⟩

set_option maxHeartbeats 800000 in
theorem rU64_any (g : Nat) (r : Rs) (w : World) (hR : Rd w g r) (hl : r.s.length ≤ 9223372036854775807) :
    Calls Tryz.prog 145 #[.pointer (some ⟨g, 0, none⟩)] w (Gave g (rU64 r).2 (.int .i64 (rU64 r).1) w) := by
  have hlt : (rNum 8 r).1 < 18446744073709551616 := (rNum_lt (k := 8) hl).1
  by_cases hb : 9223372036854775808 ≤ (rNum 8 r).1
  · have HN := Lib.hid (show rU64 r = (0, Rs.fail 3) by simp [rU64, hb])
    have h1 : (((rNum 8 r).1 : Int) / 9223372036854775808 != 0) = true := by rw [bne_iff_ne]; omega
    go_enter Tryz.func145, Tryz.ntmps145
    go_wp2_with fail
    refine (rNumber_any g 8 r _ hR (by omega) hl).mono ?_
    rintro e w1 ⟨rfl, hQ⟩
    go_wp2_with fail
    refine (rFail_any g (rNum 8 r).2 3 _ hQ.1).mono ?_
    rintro e w2 ⟨rfl, hQ2⟩
    have HQ := Lib.hid (hQ.trans hQ2)
    clear hQ hQ2
    go_wp2
    go_ret
    rw [HN.out]
    exact ⟨rfl, HQ.out⟩
  · have HN := Lib.hid (show rU64 r = rNum 8 r by simp [rU64, hb])
    have h1 : (((rNum 8 r).1 : Int) / 9223372036854775808 != 0) = false := by rw [bne_eq_false_iff_eq]; omega
    have hcv : IntKind.i64.wrap ((rNum 8 r).1 : Int) = (rNum 8 r).1 := IntWalk.i64_in _ (by omega)
    go_enter Tryz.func145, Tryz.ntmps145
    go_wp2_with fail
    refine (rNumber_any g 8 r _ hR (by omega) hl).mono ?_
    rintro e w1 ⟨rfl, hQ⟩
    go_wp2
    go_ret
    rw [HN.out]
    exact ⟨rfl, hQ⟩

theorem rU32_len {r : Rs} (h : r.s.length ≤ 9223372036854775807) : (rU32 r).2.s.length ≤ r.s.length := (rNum_lt (k := 4) h).2
theorem rU64_len {r : Rs} (h : r.s.length ≤ 9223372036854775807) : (rU64 r).2.s.length ≤ r.s.length := by
  unfold rU64
  split
  · simp [Rs.fail]
  · exact (rNum_lt (k := 8) h).2
theorem rBool_len {r : Rs} (h : r.s.length ≤ 9223372036854775807) : (rBool r).2.s.length ≤ r.s.length := by
  unfold rBool
  split
  · simp [Rs.fail]
  · exact rU32_len h
theorem rOpt_len {r : Rs} (h : r.s.length ≤ 9223372036854775807) : (rOpt r).2.s.length ≤ r.s.length := by
  have h1 := rBool_len h
  have h2 := rU64_len (r := (rBool r).2) (by omega)
  unfold rOpt
  split
  · split <;> (simp only; omega)
  · exact h1

set_option maxHeartbeats 800000 in
theorem rBool_any (g : Nat) (r : Rs) (w : World) (hR : Rd w g r) (hl : r.s.length ≤ 9223372036854775807) :
    Calls Tryz.prog 146 #[.pointer (some ⟨g, 0, none⟩)] w (Gave g (rBool r).2 (.bool (rBool r).1) w) := by
  by_cases hb : 1 < (rU32 r).1
  · have HN := Lib.hid (show rBool r = (false, Rs.fail 13) by simp [rBool, hb])
    go_enter Tryz.func146, Tryz.ntmps146
    go_wp2_with fail
    refine (rU32_any g r _ hR hl).mono ?_
    rintro e w1 ⟨rfl, hQ⟩
    go_wp2_with fail
    refine (rFail_any g (rU32 r).2 13 _ hQ.1).mono ?_
    rintro e w2 ⟨rfl, hQ2⟩
    have HQ := Lib.hid (hQ.trans hQ2)
    clear hQ hQ2
    go_wp2
    go_ret
    rw [HN.out]
    exact ⟨rfl, HQ.out⟩
  · have HN := Lib.hid (show rBool r = ((rU32 r).1 == 1, (rU32 r).2) by simp [rBool, hb])
    go_enter Tryz.func146, Tryz.ntmps146
    go_wp2_with fail
    refine (rU32_any g r _ hR hl).mono ?_
    rintro e w1 ⟨rfl, hQ⟩
    go_wp2
    go_ret
    rw [HN.out]
    refine ⟨ret_bool ?_, hQ⟩
    go_light
    grind

/-- an option that was read -/
def optV (o : Bool × Nat) : List Value := [.bool o.1, .int .i64 o.2]

theorem optV_one (o : Bool × Nat) : ∀ v ∈ optV o, v.oneCell' = true := by
  intro v hv
  simp only [optV, List.mem_cons, List.not_mem_nil, or_false] at hv
  rcases hv with rfl | rfl <;> rfl

set_option maxHeartbeats 1600000 in
theorem rOpt_any (g : Nat) (r : Rs) (w : World) (hR : Rd w g r) (hl : r.s.length ≤ 9223372036854775807) :
    Calls Tryz.prog 191 #[.pointer (some ⟨g, 0, none⟩)] w (Gave g (rOpt r).2 (.agg (optV (rOpt r).1).toArray) w) := by
  have hb := Blk.new w 32 [.bool false, .int .i64 0]
  have hB : Below w.heap.size w (w.alloc (.cells #[.bool false, .int .i64 0] 32)) := (Below.refl _ _).alloc (Nat.le_refl _) _
  have hR1 := hR.stays hB
  have hne : w.heap.size ≠ g := Nat.ne_of_gt hR.lt
  have hl1 := rBool_len hl
  clear hR
  cases hq : (rBool r).1
  · have HN := Lib.hid (show rOpt r = ((false, 0), (rBool r).2) by simp [rOpt, hq])
    go_enter Tryz.func191, Tryz.ntmps191
    go_wp2_with fail
    generalize w.alloc (.cells #[.bool false, .int .i64 0] 32) = w0 at *
    refine (rBool_any g r _ hR1 hl).mono ?_
    rintro e w1 ⟨rfl, hQ⟩
    have hb1 := hQ.keeps hb hne
    have HQ := Lib.hid (Reads.lay (cs := optV (false, 0)) (Reads.behind hB hQ) hb1 rfl hne (Nat.le_refl _))
    clear hQ hb
    go_wp2_with (first | (refine wpList_store_whole (by rfl) 32 _ _ (by rfl) w.heap.size (optV (false, 0)) _ hb1 (by rfl) (by rfl) (by rfl) (by kernel_rfl) (by decide) ?_) | fail)
    refine ret_cells w.heap.size 0 (optV (false, 0)) Tryz.results191 Tryz.underlying32 rfl (by kernel_rfl) rfl HQ.out.2.range rfl ?_
    rw [HN.out]
    exact ⟨rfl, HQ.out.1⟩
  · have hl2 := rU64_len (r := (rBool r).2) (by omega)
    by_cases he : (rU64 (rBool r).2).2.e = 0
    · have HN := Lib.hid (show rOpt r = ((true, (rU64 (rBool r).2).1), (rU64 (rBool r).2).2) by simp [rOpt, hq, he])
      go_enter Tryz.func191, Tryz.ntmps191
      go_wp2_with fail
      generalize w.alloc (.cells #[.bool false, .int .i64 0] 32) = w0 at *
      refine (rBool_any g r _ hR1 hl).mono ?_
      rintro e w1 ⟨rfl, hQ⟩
      have hb1 := hQ.keeps hb hne
      go_wp2_with fail
      refine (rU64_any g (rBool r).2 _ hQ.1 (by omega)).mono ?_
      rintro e w2 ⟨rfl, hQ2⟩
      have hb2 := hQ2.keeps hb1 hne
      have hR2 := hQ2.1
      have HQ := Lib.hid (Reads.lay (cs := optV (true, (rU64 (rBool r).2).1)) (Reads.behind hB (hQ.trans hQ2)) hb2 rfl hne (Nat.le_refl _))
      clear hQ hb hb1 hQ2
      go_wp2_with fail
      refine (rErr_any g _ _ hR2).mono ?_
      rintro e w3 ⟨rfl, rfl⟩
      go_wp2_with (first | (refine wpList_store_whole (by rfl) 32 _ _ (by rfl) w.heap.size (optV (true, (rU64 (rBool r).2).1)) _ hb2 (by rfl) (by rfl) (by rfl) (by kernel_rfl) (optV_one _) ?_) | fail)
      refine ret_cells w.heap.size 0 (optV (true, (rU64 (rBool r).2).1)) Tryz.results191 Tryz.underlying32 rfl (by kernel_rfl) rfl HQ.out.2.range rfl ?_
      rw [HN.out]
      exact ⟨rfl, HQ.out.1⟩
    · have HN := Lib.hid (show rOpt r = ((false, 0), (rU64 (rBool r).2).2) by simp [rOpt, hq, he])
      have he' : ((rU64 (rBool r).2).2.e != 0) = true := by simpa using he
      go_enter Tryz.func191, Tryz.ntmps191
      go_wp2_with fail
      generalize w.alloc (.cells #[.bool false, .int .i64 0] 32) = w0 at *
      refine (rBool_any g r _ hR1 hl).mono ?_
      rintro e w1 ⟨rfl, hQ⟩
      have hb1 := hQ.keeps hb hne
      go_wp2_with fail
      refine (rU64_any g (rBool r).2 _ hQ.1 (by omega)).mono ?_
      rintro e w2 ⟨rfl, hQ2⟩
      have hb2 := hQ2.keeps hb1 hne
      have hR2 := hQ2.1
      have HQ := Lib.hid (Reads.lay (cs := optV (false, 0)) (Reads.behind hB (hQ.trans hQ2)) hb2 rfl hne (Nat.le_refl _))
      clear hQ hb hb1 hQ2
      go_wp2_with fail
      refine (rErr_any g _ _ hR2).mono ?_
      rintro e w3 ⟨rfl, rfl⟩
      go_wp2_with (first | (refine wpList_store_whole (by rfl) 32 _ _ (by rfl) w.heap.size (optV (false, 0)) _ hb2 (by rfl) (by rfl) (by rfl) (by kernel_rfl) (by decide) ?_) | fail)
      refine ret_cells w.heap.size 0 (optV (false, 0)) Tryz.results191 Tryz.underlying32 rfl (by kernel_rfl) rfl HQ.out.2.range rfl ?_
      rw [HN.out]
      exact ⟨rfl, HQ.out.1⟩
end Go.Proofs.YtfjflkmhhbhceaaGreatDoor


/-
  Layer 1, walks: what strings.Trim leaves of a text whose noughts are cut off; a text, and what fills it up, are taken. Conditions: sizes.
-/
namespace Go.Proofs.YtfjflkmhhbhceaaGreatDoor
open Go.RowKit
attribute [local go_sem ↓] Go.wp_at_zero Go.wp_at_succ
attribute [local go_sem] rowAt_ptr rowOf_drew rowOf_drewN rowOf_alloc_past rowOf_new
attribute [local go_sem] bs_get

theorem last_at {l : List UInt8} {k : Nat} (hk : k < l.length) : (l.take (k + 1)).getLast? = some l[k] := by
  rw [List.take_succ_eq_append_getElem hk, List.getLast?_append]; simp
theorem drop_zeros {l : List UInt8} {k : Nat} (hk : k < l.length) (h0 : l[k] = 0) (h : ∀ x ∈ l.drop (k + 1), x = 0) : ∀ x ∈ l.drop k, x = 0 := by
  intro x hx
  rw [List.drop_eq_getElem_cons hk] at hx
  rcases List.mem_cons.1 hx with rfl | hx
  · exact h0
  · exact h x hx
def TrimR (l : List UInt8) (w : World) (e : Ending) (w' : World) : Prop := ∃ m z, e = .returned (.string (bs m)) ∧ l = m ++ z ∧ (∀ x ∈ z, x = 0) ∧ (∀ x, m.getLast? = some x → x ≠ 0) ∧ w = w'
def TrimL (l : List UInt8) (w : World) (e : Ending) (w' : World) : Prop := ∃ m z, e = .returned (.string (bs m)) ∧ l = z ++ m ∧ (∀ x ∈ z, x = 0) ∧ (∀ x, m.head? = some x → x ≠ 0) ∧ w = w'
def strLen : Value → Nat
  | .string b => b.size
  | _ => 0
theorem strLen_bs (l : List UInt8) : strLen (.string (bs l)) = l.length := rfl
set_option maxRecDepth 20000 in
set_option maxHeartbeats 800000 in
theorem trimRight_any (l : List UInt8) (w : World) (hl : l.length ≤ 9223372036854775807) :
    Calls Tryz.prog 201 #[.string (bs l), .int .u8 0] w (TrimR l w) := by
  go_enter Tryz.func201, Tryz.ntmps201
  go_wp2
  go_loop [0] (fun s => ∃ k : Nat, k ≤ l.length ∧ s = .string (bs (l.take k)) ∧ ∀ x ∈ l.drop k, x = 0) (fun s => strLen s)
  case atStart => exact ⟨l.length, Nat.le_refl _, by rw [List.take_length], by simp⟩
  case round =>
    obtain ⟨k, hk, rfl, hz⟩ := hrel
    have hsz : (bs (l.take k)).size = k := by rw [bs_size, List.length_take]; omega
    have HZ := Lib.hid hz
    clear hz
    match k, hk, hsz with
    | 0, hk, hsz =>
      go_wp2
      go_ret
      exact ⟨[], l, rfl, rfl, by simpa using HZ.out, by simp, rfl⟩
    | k + 1, hk, hsz =>
      have hlt : k < l.length := by omega
      have hb := l[k].toNat_lt
      have hlen : (l.take (k + 1)).length = k + 1 := by rw [List.length_take]; omega
      have hlen2 : (l.take k).length = k := by rw [List.length_take]; omega
      have htt : (l.take (k + 1)).take k = l.take k := by rw [List.take_take]; congr 1; omega
      have hk1 : (0 : Int) < ((k + 1 : Nat) : Int) := by omega
      have hidx : ((k + 1 : Nat) : Int) - 1 = (k : Int) := by omega
      by_cases h0 : l[k] = 0
      · have h1 : ((l[k].toNat : Int) == 0) = true := by rw [h0]; rfl
        have HS := Lib.hid (drop_zeros hlt h0 HZ.out)
        clear h0 HZ
        go_wp2
        go_round
        case rel => exact ⟨k, by omega, by rw [bs_take, htt], HS.out⟩
        case measure => rw [bs_take, htt, strLen_bs, strLen_bs, hlen, hlen2]; omega
      · have h1 : ((l[k].toNat : Int) == 0) = false := by
          rw [beq_eq_false_iff_ne]; intro e; apply h0; apply UInt8.toNat_inj.1; simpa using e
        have HS := Lib.hid (show ∀ x, (l.take (k + 1)).getLast? = some x → x ≠ 0 from fun x hx => by
          rw [last_at hlt] at hx; injection hx with hx; subst hx; exact h0)
        clear h0
        go_wp2
        go_ret
        exact ⟨l.take (k + 1), l.drop (k + 1), rfl, (List.take_append_drop _ _).symm, HZ.out, HS.out, rfl⟩

theorem take_zeros {l : List UInt8} {k : Nat} (hk : k < l.length) (h0 : l[k] = 0) (h : ∀ x ∈ l.take k, x = 0) : ∀ x ∈ l.take (k + 1), x = 0 := by
  intro x hx
  rw [List.take_succ_eq_append_getElem hk] at hx
  rcases List.mem_append.1 hx with hx | hx
  · exact h x hx
  · simp at hx; subst hx; exact h0
set_option maxRecDepth 20000 in
set_option maxHeartbeats 800000 in
theorem trimLeft_any (l : List UInt8) (w : World) (hl : l.length ≤ 9223372036854775807) :
    Calls Tryz.prog 200 #[.string (bs l), .int .u8 0] w (TrimL l w) := by
  go_enter Tryz.func200, Tryz.ntmps200
  go_wp2
  go_loop [0] (fun s => ∃ k : Nat, k ≤ l.length ∧ s = .string (bs (l.drop k)) ∧ ∀ x ∈ l.take k, x = 0) (fun s => strLen s)
  case atStart => exact ⟨0, Nat.zero_le _, rfl, by simp⟩
  case round =>
    obtain ⟨k, hk, rfl, hz⟩ := hrel
    have HZ := Lib.hid hz
    clear hz
    by_cases hlt : k < l.length
    · have hb := l[k].toNat_lt
      have hdr : l.drop k = l[k] :: l.drop (k + 1) := List.drop_eq_getElem_cons hlt
      have hlen2 : (l.drop (k + 1)).length = l.length - (k + 1) := List.length_drop
      have hlen : (l[k] :: l.drop (k + 1)).length = l.length - k := by rw [List.length_cons, hlen2]; omega
      have hsz : (bs (l[k] :: l.drop (k + 1))).size = l.length - k := hlen
      have hpos : (0 : Int) < ((l.length - k : Nat) : Int) := by omega
      have hbig : ((l.length - k : Nat) : Int) ≤ 9223372036854775807 := by omega
      have HD := Lib.hid hdr
      rw [hdr]
      by_cases h0 : l[k] = 0
      · have h1 : ((l[k].toNat : Int) == 0) = true := by rw [h0]; rfl
        have HS := Lib.hid (take_zeros hlt h0 HZ.out)
        clear h0 HZ hdr
        have hcut : (bs (l.drop k)).extract 1 (l.length - k) = bs (l.drop (k + 1)) := by
          have := bs_drop (l.drop k) 1
          rw [List.length_drop, List.drop_drop] at this
          exact this
        have HC := Lib.hid hcut
        clear hcut
        go_wp2
        go_round
        case rel => exact ⟨k + 1, by omega, by rw [HC.out], HS.out⟩
        case measure => rw [HC.out, strLen_bs, strLen_bs, hlen, hlen2]; omega
      · have h1 : ((l[k].toNat : Int) == 0) = false := by
          rw [beq_eq_false_iff_ne]; intro e; apply h0; apply UInt8.toNat_inj.1; simpa using e
        have HS := Lib.hid (show ∀ x, (l.drop k).head? = some x → x ≠ 0 from fun x hx => by
          rw [hdr] at hx; simp only [List.head?_cons, Option.some.injEq] at hx; exact fun e => h0 (hx.trans e))
        clear h0 hdr
        go_wp2
        go_ret
        exact ⟨l.drop k, l.take k, rfl, (List.take_append_drop _ _).symm, HZ.out, HS.out, rfl⟩
    · have hdr : l.drop k = [] := List.drop_of_length_le (by omega)
      have htk : l.take k = l := List.take_of_length_le (by omega)
      rw [htk] at HZ
      rw [hdr]
      clear htk hdr hlt
      go_wp2
      go_ret
      exact ⟨[], l, rfl, by simp, HZ.out, by simp, rfl⟩

def Trimmed (l : List UInt8) (w : World) (e : Ending) (w' : World) : Prop := ∃ m, e = .returned (.string (bs m)) ∧ (m = [] ↔ l.all (· == 0) = true) ∧ Below w.heap.size w w'
theorem trimmed_iff {l m m1 z1 z2 : List UInt8} (h1 : l = m1 ++ z1) (h2 : m1 = z2 ++ m) (hz1 : ∀ x ∈ z1, x = 0) (hz2 : ∀ x ∈ z2, x = 0) (hm : ∀ x, m.head? = some x → x ≠ 0) : m = [] ↔ l.all (· == 0) = true := by
  subst h1 h2
  rw [List.all_eq_true]
  constructor
  · rintro rfl
    intro x hx
    simp only [List.append_nil, List.mem_append] at hx
    rcases hx with hx | hx
    · simpa using hz2 x hx
    · simpa using hz1 x hx
  · intro h
    cases m with
    | nil => rfl
    | cons a m =>
      have := h a (by simp)
      exact absurd (by simpa using this) (hm a rfl)
set_option maxRecDepth 20000 in
set_option maxHeartbeats 800000 in
theorem trim_any (l : List UInt8) (w : World) (hl : l.length ≤ 9223372036854775807) :
    Calls Tryz.prog 187 #[.string (bs l), .string (bs [0])] w (Trimmed l w) := by
  cases l with
  | nil =>
    go_enter Tryz.func187, Tryz.ntmps187
    go_wp2
    go_ret
    exact ⟨[], rfl, by simp, Below.refl _ _⟩
  | cons a t =>
    have hlen : (a :: t).length = t.length + 1 := rfl
    go_enter Tryz.func187, Tryz.ntmps187
    go_wp2_with fail
    have HL := Lib.hid hl
    generalize a :: t = l at *
    go_region_held3 (fun W => Stb w W) (first | exact Stb.start | assumption) (first
      | (go_at_call 201; refine (trimRight_any l _ HL.out).mono ?_; rintro e w' ⟨m1, z1, rfl, h1, hz1, hm1, rfl⟩; have H1 := Lib.hid h1; clear h1)
      | (go_at_call 200; refine (trimLeft_any m1 _ (by have h := HL.out; rw [H1.out, List.length_append] at h; omega)).mono ?_; rintro e w' ⟨m, z2, rfl, h2, hz2, hm, rfl⟩; have H2 := Lib.hid h2; clear h2))
    all_goals
      have HI := Lib.hid (trimmed_iff H1.out H2.out hz1 hz2 hm)
      clear hz1 hz2 hm hm1 H1 H2
      go_wp2
      go_ret
      exact ⟨m, rfl, HI.out, (Below.refl _ _).drew⟩
end Go.Proofs.YtfjflkmhhbhceaaGreatDoor


/-
  Layer 8, walks of the document's own: which letters a procedure's results have. No condition.
-/
namespace Go.Proofs.YtfjflkmhhbhceaaGreatDoor
open Go.RowKit
attribute [local go_sem ↓] Go.wp_at_zero Go.wp_at_succ
attribute [local go_sem] rowAt_ptr rowOf_drew rowOf_drewN rowOf_alloc_past rowOf_new

def strsV (l : List (List UInt8)) : List Value := l.map fun s => .string (bs s)
theorem strsV_at {w : World} {h : Nat} {T : TypeId} {l : List (List UInt8)} (hB : Blk w h T (strsV l)) {k : Nat} (hk : k < l.length) : w.cell? ⟨h, k, none⟩ = some (.string (bs (l.getD k []))) := by
  rw [hB.cell]; simp [strsV, List.getD, hk]
theorem pFields_nat (k : Nat) (fine : Bool) : pFields (k : Int) fine = (lettersPQ fine).getD k [] := by
  unfold pFields; rw [if_neg (by omega), Int.toNat_natCast]

set_option maxRecDepth 20000 in
set_option maxHeartbeats 800000 in
theorem refFields8_any (p : Int) (fine : Bool) (w : World) : Calls Tryz.prog 62 #[.int .i64 p, .bool fine] w fun e w' => e = .returned (.string (bs (pFields p fine))) ∧ Below w.heap.size w w' := by
  have hP := Blk.new w 9 (strsV lettersP)
  have hB1 : Below w.heap.size w (w.alloc (.cells (strsV lettersP).toArray 9)) := (Below.refl _ _).alloc (Nat.le_refl _) _
  have hs1 : (w.alloc (.cells (strsV lettersP).toArray 9)).heap.size = w.heap.size + 1 := by simp
  obtain ⟨w1, hw1⟩ : ∃ u, u = w.alloc (.cells (strsV lettersP).toArray 9) := ⟨_, rfl⟩
  rw [← hw1] at hP hB1 hs1
  have hP2 := hP.alloc (.cells (strsV lettersQ).toArray 9)
  have hQ2 := Blk.new w1 9 (strsV lettersQ)
  rw [hs1] at hQ2
  have hB2 := hB1.alloc hB1.size (.cells (strsV lettersQ).toArray 9)
  obtain ⟨w2, hw2⟩ : ∃ u, u = w1.alloc (.cells (strsV lettersQ).toArray 9) := ⟨_, rfl⟩
  rw [← hw2] at hP2 hQ2 hB2
  have hcP := fun k hk => strsV_at hP2 (k := k) hk
  have hcQ := fun k hk => strsV_at hQ2 (k := k) hk
  have HW := Lib.hid (And.intro hw1 hw2)
  have HB := Lib.hid hB2
  clear hP hB1 hs1 hw1 hw2 hP2 hQ2 hB2
  go_enter Tryz.func62, Tryz.ntmps62
  go_upto_region 3 with fail
  change Code.wp _ _ _ _ ((w.alloc (.cells (strsV lettersP).toArray 9)).alloc (.cells (strsV lettersQ).toArray 9))
  rw [← HW.out.1, ← HW.out.2]
  clear HW
  by_cases h1 : p < 0
  · have HV := Lib.hid (pFields_low (fine := fine) h1)
    clear hcP hcQ
    go_wp2
    go_ret
    rw [HV.out]
    exact ⟨rfl, HB.out⟩
  · by_cases h2 : 22 ≤ p
    · have HV := Lib.hid (pFields_high (fine := fine) h2)
      clear hcP hcQ
      go_wp2
      go_ret
      rw [HV.out]
      exact ⟨rfl, HB.out⟩
    · obtain ⟨k, rfl⟩ : ∃ k : Nat, p = k := ⟨p.toNat, by omega⟩
      have hk0 : (0 : Int) ≤ (k : Int) := Int.natCast_nonneg _
      have hk1 : (k : Int) < 22 := by omega
      have hcp := hcP k (show k < 22 by omega)
      have hcq := hcQ k (show k < 22 by omega)
      cases fine with
      | true =>
        have HV := Lib.hid (show pFields (k : Int) true = lettersP.getD k [] from pFields_nat k true)
        generalize lettersP.getD k [] = l at *
        clear hcP hcQ hcq
        go_wp2
        go_ret
        rw [HV.out]
        exact ⟨rfl, HB.out⟩
      | false =>
        have HV := Lib.hid (show pFields (k : Int) false = lettersQ.getD k [] from pFields_nat k false)
        generalize lettersQ.getD k [] = l at *
        clear hcP hcQ hcp
        go_wp2
        go_ret
        rw [HV.out]
        exact ⟨rfl, HB.out⟩
end Go.Proofs.YtfjflkmhhbhceaaGreatDoor
