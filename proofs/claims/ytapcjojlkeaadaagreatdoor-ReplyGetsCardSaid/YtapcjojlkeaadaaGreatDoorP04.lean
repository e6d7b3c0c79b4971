/-
  Layer 1, walks: a reader takes bytes. Conditions: a reader at a block of its own; texts are machine texts.
-/
import Derived.Test.YtapcjojlkeaadaaGreatDoorP03
import Derived.Deep.Light
import Derived.Laws.Bits64b
namespace Go.Proofs.YtapcjojlkeaadaaGreatDoor
open Go.RowKit
attribute [local go_sem ↓] Go.wp_at_zero Go.wp_at_succ
attribute [local go_sem] rowAt_ptr rowOf_drew rowOf_drewN rowOf_alloc_past rowOf_new
attribute [local go_sem] bs_take bs_drop

/-- the reader has come to this; all else that was there is as it was -/
def Reads (g : Nat) (r : Rs) (w w' : World) : Prop := Rd w' g r ∧ Touch (fun k => k = g) w w'
def Gave (g : Nat) (r : Rs) (v : Value) (w : World) (e : Ending) (w' : World) : Prop := e = .returned v ∧ Reads g r w w'
theorem Rd.lt {w : World} {g : Nat} {r : Rs} (h : Rd w g r) : g < w.heap.size := h.1.lt
theorem Reads.refl {w : World} {g : Nat} {r : Rs} (h : Rd w g r) : Reads g r w w := ⟨h, Touch.refl _ _⟩
theorem Reads.trans {a b c : World} {g : Nat} {r r' : Rs} (h : Reads g r a b) (k : Reads g r' b c) : Reads g r' a c := ⟨k.1, h.2.then_ k.2⟩
theorem Rd.stays {w w' : World} {g : Nat} {r : Rs} (h : Rd w g r) (hb : Below w.heap.size w w') : Rd w' g r := ⟨h.1.stays hb, h.2⟩
theorem Rd.touch {w w' : World} {g : Nat} {r : Rs} {F : Nat → Prop} (h : Rd w g r) (ht : Touch F w w') (hn : ¬ F g) : Rd w' g r := ⟨h.1.touch ht hn, h.2⟩
/-- memory is made, then the reader is read -/
theorem Reads.behind {a b c : World} {g : Nat} {r : Rs} (h : Below a.heap.size a b) (k : Reads g r b c) : Reads g r a c := ⟨k.1, (Touch.of_below h _).then_ k.2⟩
theorem Reads.new {a b c : World} {g : Nat} {r : Rs} (h : Reads g r a b) (k : Below b.heap.size b c) : Reads g r a c := ⟨h.1.stays k, h.2.then_ (Touch.of_below k _)⟩
theorem Reads.size {a b : World} {g : Nat} {r : Rs} (h : Reads g r a b) : a.heap.size ≤ b.heap.size := h.2.size
/-- another block stands while the reader is read -/
theorem Reads.keeps {a b : World} {g : Nat} {r : Rs} (h : Reads g r a b) {k : Nat} {T : TypeId} {cs : List Value} (hb : Blk a k T cs) (hk : k ≠ g) : Blk b k T cs := hb.touch h.2 hk
theorem Reads.below {a b : World} {g B : Nat} {r : Rs} (h : Reads g r a b) (hg : B ≤ g) (hB : B ≤ a.heap.size) : Below B a b := h.2.below (fun k _ hk => by subst hk; exact hg) hB
theorem Touch.setCell_ {F : Nat → Prop} {a b : World} (h : Touch F a b) {g o : Nat} (hp : F g ∨ a.heap.size ≤ g) (u : Value) : Touch F a (b.setCell ⟨g, o, none⟩ u) := h.setCell (p := ⟨g, o, none⟩) hp u

theorem Touch.setCells {F : Nat → Prop} {a : World} {g : Nat} (hp : F g ∨ a.heap.size ≤ g) : ∀ (vs : List Value) (o : Nat) (b : World), Touch F a b → Touch F a (b.setCells g o vs)
  | [], _, _, h => h
  | v :: vs, o, b, h => by
    rw [World.setCells]
    exact Touch.setCells hp vs (o + 1) _ (h.setCell_ hp v)
/-- a whole struct is laid into a block of the call's own while a reader is read -/
theorem Reads.lay {w wx : World} {g b : Nat} {r : Rs} {T : TypeId} {old cs : List Value} (h : Reads g r w wx) (hb : Blk wx b T old) (hl : old.length = cs.length) (hne : b ≠ g) (hB : w.heap.size ≤ b) : Reads g r w (wx.setCells b 0 cs) ∧ Blk (wx.setCells b 0 cs) b T cs :=
  ⟨⟨⟨Blk.farCells hne.symm cs 0 wx h.1.1, h.1.2⟩, Touch.setCells (.inr hB) cs 0 wx h.2⟩, hb.whole hl⟩

theorem rErr_any (g : Nat) (r : Rs) (w : World) (hR : Rd w g r) : Calls Tryz.prog 15 #[.pointer (some ⟨g, 0, none⟩)] w fun e w' => e = .returned (.int .i64 r.e) ∧ w = w' := by
  have hc := hR.1.cell
  go_enter Tryz.func15, Tryz.ntmps15
  go_wp2
  go_ret
  exact ⟨rfl, rfl⟩
theorem rErr_nil (w : World) : Calls Tryz.prog 15 #[.pointer none] w fun e w' => e = .returned (.int .i64 1) ∧ w = w' := by
  go_enter Tryz.func15, Tryz.ntmps15
  go_wp2
  go_ret
  exact ⟨rfl, rfl⟩

theorem rFail_any (g : Nat) (r : Rs) (n : Int) (w : World) (hR : Rd w g r) : Calls Tryz.prog 67 #[.pointer (some ⟨g, 0, none⟩), .int .i64 n] w (Gave g (Rs.fail n) (.tuple #[]) w) := by
  have hc := hR.1.cell
  have hf := hR.1.frozen
  have hB := Lib.hid ((hR.1.set_ 0 (.string (bs []))).set_ 1 (.int .i64 n))
  have hT := Lib.hid (((Touch.refl (fun k => k = g) w).setCell_ (g := g) (o := 0) (.inl rfl) (.string (bs []))).setCell_ (g := g) (o := 1) (.inl rfl) (.int .i64 n))
  clear hR
  go_enter Tryz.func67, Tryz.ntmps67
  go_wp2
  go_end0
  exact ⟨rfl, ⟨hB.out, fun _ => rfl⟩, hT.out⟩

set_option maxHeartbeats 800000 in
theorem take_err (g : Nat) (r : Rs) (n : Nat) (f : Value) (w : World) (hR : Rd w g r) (he : r.e ≠ 0) : Calls Tryz.prog 65 #[.pointer (some ⟨g, 0, none⟩), .int .i64 n, f] w fun e w' => e = .returned (.tuple #[]) ∧ w = w' := by
  have he' : (r.e != 0) = true := by simpa using he
  have HR := Lib.hid hR
  clear hR he
  go_enter Tryz.func65, Tryz.ntmps65
  go_wp2_with fail
  refine (rErr_any g r _ HR.out).mono ?_
  rintro e w1 ⟨rfl, rfl⟩
  go_wp2
  exact bodyPost_ret (results_none Tryz.results65 _ _ _) rfl ⟨rfl, rfl⟩

set_option maxHeartbeats 800000 in
theorem take_short (g : Nat) (s : List UInt8) (n : Nat) (f : Value) (w : World) (hR : Rd w g ⟨s, 0⟩) (hs : s.length < n) : Calls Tryz.prog 65 #[.pointer (some ⟨g, 0, none⟩), .int .i64 n, f] w (Gave g (Rs.fail 10) (.tuple #[]) w) := by
  have hc := hR.1.cell
  have hsz := bs_size s
  have HR := Lib.hid hR
  clear hR
  go_enter Tryz.func65, Tryz.ntmps65
  go_wp2_with fail
  refine (rErr_any g ⟨s, 0⟩ _ HR.out).mono ?_
  rintro e w1 ⟨rfl, rfl⟩
  go_wp2_with fail
  refine (rFail_any g ⟨s, 0⟩ 10 _ HR.out).mono ?_
  rintro e w2 ⟨rfl, hQ⟩
  go_wp2
  exact bodyPost_ret (results_none Tryz.results65 _ _ _) rfl ⟨rfl, hQ⟩

set_option maxHeartbeats 1600000 in
theorem take_ok (g : Nat) (s : List UInt8) (n f : Nat) (cap : Array Value) (w : World) (hR : Rd w g ⟨s, 0⟩) (hs : n ≤ s.length) (_hl : s.length ≤ 9223372036854775807) (hcf : ∀ (args : Array Value) (w : World), (callFunc f args).run Tryz.prog w = .ok (.enter f args) w) {Q : World → World → Prop}
    (hdo : ∀ w1, Reads g ⟨s.drop n, 0⟩ w w1 → Calls Tryz.prog f (#[.string (bs (s.take n))] ++ cap) w1 fun e w' => e = .returned (.tuple #[]) ∧ Q w1 w') :
    Calls Tryz.prog 65 #[.pointer (some ⟨g, 0, none⟩), .int .i64 n, .func (.func f) #[] cap] w fun e w' => ∃ w1, e = .returned (.tuple #[]) ∧ Reads g ⟨s.drop n, 0⟩ w w1 ∧ Q w1 w' := by
  have hc := hR.1.cell
  have hf := hR.1.frozen
  have hsz := bs_size s
  have HR := Lib.hid hR
  have HD := Lib.hid hdo
  clear hR hdo
  go_enter Tryz.func65, Tryz.ntmps65
  go_wp2_with fail
  refine (rErr_any g ⟨s, 0⟩ _ HR.out).mono ?_
  rintro e w1 ⟨rfl, rfl⟩
  go_wp2_with fail
  have hS := ((HR.out.1.set_ 0 (.string (bs (s.drop n)))))
  have hT := ((Touch.refl (fun k => k = g) w).setCell_ (g := g) (o := 0) (.inl rfl) (.string (bs (s.drop n))))
  have HQ := Lib.hid (show Reads g ⟨s.drop n, 0⟩ w (w.setCell ⟨g, 0, none⟩ (.string (bs (s.drop n)))) from ⟨⟨hS, fun h => absurd rfl h⟩, hT⟩)
  clear hS hT
  refine (HD.out _ HQ.out).mono ?_
  rintro e w2 ⟨rfl, hq⟩
  have HQ2 := Lib.hid hq
  clear hq
  go_wp2
  go_end0
  exact ⟨_, rfl, HQ.out, HQ2.out⟩

/-- '[]byte(s)' -/
def rowsU8 (l : List UInt8) : List (List Value) := l.map fun c => [u8 c]
theorem conv_bytes {P : Program} (w : World) (src dst e : TypeId) (l : List UInt8) (hs : P.underlying src = some .string) (hd : P.underlying dst = some (.slice e)) (he : P.underlying e = some (.int .u8)) :
    ∃ cap W', (convert src dst (.string (bs l))).run P w = .ok (.slice (some ⟨w.heap.size, 0, none⟩) l.length cap) W' ∧ At W' 1 (some ⟨w.heap.size, 0, none⟩) (rowsU8 l) ∧ Below w.heap.size w W' ∧ w.heap.size < W'.heap.size := by
  refine ⟨_, _, run_bytes_of_string w src dst e (bs l) hs hd he, ?_, ((Below.refl _ _).drew).alloc (Nat.le_refl _) _, by simp⟩
  intro i r hr
  simp only [rowsU8, List.getElem?_map, Option.map_eq_some_iff] at hr
  obtain ⟨c, hc, rfl⟩ := hr
  have hi : i < l.length := (List.getElem?_eq_some_iff.1 hc).1
  refine ⟨w.heap.size, 0, rfl, by simp, fun j u hu => ?_⟩
  obtain rfl : j = 0 := by
    have := (List.getElem?_eq_some_iff.1 hu).1
    simp at this
    exact this
  simp only [List.getElem?_cons_zero, Option.some.injEq] at hu
  subst hu
  have h1 := World.cell?_alloc_mark w.drew (bytesRow (bs l) (grownCap w (bs l).size 0 e)) e ((bytesRow (bs l) (grownCap w (bs l).size 0 e)).size, (bytesRow (bs l) (grownCap w (bs l).size 0 e)).size + 1) i
  have h2 := bytesRow_at (bs l) (grownCap w (bs l).size 0 e) i (by simpa using hi)
  have h3 : (bs l).data[i]'(by simpa using hi) = c := by
    have := (List.getElem?_eq_some_iff.1 hc).2
    simpa using this
  rw [h3] at h2
  simpa [Nat.mul_one, u8] using h1.trans h2
theorem rowsU8_cell {w : World} {b : Nat} {l : List UInt8} (h : At w 1 (some ⟨b, 0, none⟩) (rowsU8 l)) {k : Nat} (hk : k < l.length) : w.cell? ⟨b, k, none⟩ = some (.int .u8 (l[k].toNat : Int)) := by
  obtain ⟨b', off, he, -, hc⟩ := h.getD (k := k) (by simpa [rowsU8] using hk)
  injection he with he
  injection he with h1 h2
  subst h1; subst h2
  have := hc 0 (u8 l[k]) (by simp [rowsU8])
  simpa [u8] using this

theorem or_step (v c : Nat) (hv : v < 72057594037927936) (hc : c < 256) : bits .or .u64 (IntKind.u64.wrap ((v : Int) * 256)) (IntKind.u64.wrap (c : Int)) = ((v * 256 + c : Nat) : Int) := by
  have e1 : IntKind.u64.wrap ((v : Int) * 256) = ((v * 256 : Nat) : Int) := by rw [IntKind.wrap_u64]; omega
  have e2 : IntKind.u64.wrap (c : Int) = (c : Int) := by rw [IntKind.wrap_u64]; omega
  rw [e1, e2, bits_or_u64_nat _ _ (by omega) (by omega)]
  congr 1
  have := Nat.shiftLeft_add_eq_or_of_lt (i := 8) (b := c) (by omega) v
  rw [Nat.shiftLeft_eq, show (2 : Nat) ^ 8 = 256 from rfl] at this
  omega

set_option maxRecDepth 20000 in
set_option maxHeartbeats 1600000 in
theorem rNumber1_any (b : Nat) (l : List UInt8) (w : World) (hB : Blk w b 78 [.int .u64 0]) (hl : l.length ≤ 8) :
    Calls Tryz.prog 66 #[.string (bs l), .pointer (some ⟨b, 0, none⟩)] w fun e w' => e = .returned (.tuple #[]) ∧ Blk w' b 78 [.int .u64 (beVal l)] ∧ Touch (fun k => k = b) w w' := by
  have hsz := bs_size l
  obtain ⟨cap, W1, hrun, hA, hb1, hlt1⟩ := conv_bytes (P := Tryz.prog) w 9 69 5 l Tryz.underlying9 Tryz.underlying69 Tryz.underlying5
  have hB1 := hB.stays hb1
  have hT1 := Touch.of_below hb1 (fun k => k = b)
  have hne : w.heap.size ≠ b := Nat.ne_of_gt hB.lt
  clear hb1 hB
  go_enter Tryz.func66, Tryz.ntmps66
  go_wp2
  go_loopw [8] (fun i wr => ∃ (k : Nat), k ≤ l.length ∧ i = .int .i64 k ∧ Blk wr b 78 [.int .u64 (beVal (l.take k))] ∧ Touch (fun j => j = b) w wr ∧ At wr 1 (some ⟨w.heap.size, 0, none⟩) (rowsU8 l)) (fun i _ => l.length - (intOf i).toNat)
  case atStart =>
    exact ⟨0, Nat.zero_le _, rfl, hB1, hT1, hA⟩
  case round =>
    clear hA hB1 hT1
    obtain ⟨k, hk, rfl, hb, hT, hA⟩ := hrel
    by_cases hlt : k < l.length
    · have hc1 := rowsU8_cell hA hlt
      have hc0 := hb.cell
      have hf0 := hb.frozen
      have hv : beVal (l.take k) < 72057594037927936 := by
        have h1 := beVal_lt (l.take k)
        have h2 : (l.take k).length ≤ 7 := by simp; omega
        have h3 := Nat.pow_le_pow_right (n := 256) (by omega) h2
        omega
      have hor := or_step (beVal (l.take k)) l[k].toNat hv (by have := l[k].toNat_lt; omega)
      have HS := Lib.hid (show beVal (l.take (k + 1)) = beVal (l.take k) * 256 + l[k].toNat by rw [List.take_succ_eq_append_getElem hlt, beVal_snoc])
      have HB := Lib.hid (hb.set_ 0 (.int .u64 ((beVal (l.take k) * 256 + l[k].toNat : Nat) : Int)))
      have HT := Lib.hid (hT.setCell_ (g := b) (o := 0) (.inl rfl) (.int .u64 ((beVal (l.take k) * 256 + l[k].toNat : Nat) : Int)))
      have HA := Lib.hid (hA.touch ((Touch.refl (fun j => j = b) wr).setCell_ (g := b) (o := 0) (.inl rfl) (.int .u64 ((beVal (l.take k) * 256 + l[k].toNat : Nat) : Int))) (fun b' off he => by injection he with he; injection he with h1 h2; omega))
      clear hb hT hA hv
      go_wp2
      go_roundw
      case rel => exact ⟨k + 1, by omega, by go_num, by rw [HS.out]; exact HB.out, HT.out, HA.out⟩
      case measure => simp [intOf]; omega
    · have HE := Lib.hid hb
      obtain rfl : k = l.length := by omega
      rw [List.take_length] at HE
      go_wp2
      go_end0
      exact ⟨rfl, HE.out, hT⟩
end Go.Proofs.YtapcjojlkeaadaaGreatDoor

/-
  Memory words for regions that draw their order and read by one reader. No condition.
-/
namespace Go.Proofs.YtapcjojlkeaadaaGreatDoor
open Go.RowKit
/-- what holds of every world that such a region comes through, that began in w, with the reader at block g -/
abbrev StQ (g : Nat) (w W : World) : Prop := (∀ b o, b < w.heap.size → b ≠ g → W.cell? ⟨b, o, none⟩ = w.cell? ⟨b, o, none⟩) ∧ (∀ b o n, b < w.heap.size → b ≠ g → rowOf W b o n = rowOf w b o n) ∧ Touch (fun k => k = g) w W
theorem StQ.of {g : Nat} {w W : World} (h : Touch (fun k => k = g) w W) : StQ g w W := ⟨fun _ _ hb hn => h.cell hb hn, fun _ _ _ hb hn => h.row hb hn _ _, h⟩
theorem StQ.start {g : Nat} {w : World} : StQ g w w.drew := StQ.of (Touch.refl _ _).drew
theorem StQ.call {g : Nat} {w W W' : World} (h : StQ g w W) (hb : Touch (fun k => k = g) W W') : StQ g w W' := StQ.of (h.2.2.then_ hb)
theorem StQ.alloc {g : Nat} {w W : World} (h : StQ g w W) (o : Obj) : StQ g w (W.alloc o) := StQ.of (h.2.2.alloc o)
theorem Rd.drewQ {w : World} {g : Nat} {r : Rs} (h : Rd w g r) : Rd w.drew g r := h
end Go.Proofs.YtapcjojlkeaadaaGreatDoor
