/-
  Stores of whole structs, as rules of the walk's own simp; what a block is behind them. No condition.
-/
import Derived.Test.YtfjflkmhhbhceaaGreatDoorK40
import Derived.Test.YtfjflkmhhbhceaaGreatDoorK20
import Derived.Laws.IdiomCopy
import Derived.Test.YtfjflkmhhbhceaaGreatDoorK25
import Derived.Test.YtfjflkmhhbhceaaGreatDoorK28
import Derived.Great.BuildSlice
namespace Go.Proofs.YtfjflkmhhbhceaaGreatDoor
open Go.RowKit

/-- three results, the first a whole struct's cells -/
theorem ret_cells3 {P : Program} {fn : Func} {R : Ending → World → Prop} {a : Act} {w : World} {p q r : Tmp} {ty : TypeId} {d : TypeDesc} (b o : Nat) (cs : List Value) (v u : Value) (hres : fn.results = #[.cell p ty, .tmp q, .tmp r]) (hu : P.underlying ty = some d) (hd : d.isRow = true)
    (hi : (P.info? ty).map (·.size) = some cs.length) (hp : a.tmps.getD p undef = .pointer (some ⟨b, o, none⟩)) (hq : a.tmps.getD q undef = v) (hr : a.tmps.getD r undef = u) (hc : w.rangeAt b o cs) (hdef : a.defers = []) (hR : R (.returned (.tuple #[.agg cs.toArray, v, u])) w) : bodyPost P fn R .ret a w := by
  refine bodyPost_ret (v := .tuple #[.agg cs.toArray, v, u]) ?_ hdef hR
  have hl := run_loadVar_mid (P := P) w b o ty cs d hc hu hd hi
  rw [Array.getD_eq_getD_getElem?] at hp hq hr
  simp [results, hres, hp, hq, hr, asAddr, hl]
/-- rows in a block that was just made -/
theorem RowS.made (W : World) {b B sz : Nat} (e : TypeId) (rows : List (List Value)) (hl : ∀ r ∈ rows, r.length = sz) (hb : b = W.heap.size) (hB : B ≤ b) (hn : rows.length ≤ 1000000) {k : Nat} (hk : k = rows.length) :
    RowS (W.alloc (.cells rows.flatten.toArray e)) B e sz (.slice (some ⟨b, 0, none⟩) k k) rows := by
  subst hb hk
  have hf := flat_len rows hl
  exact ⟨hl, hf, .inr ⟨W.heap.size, rows.length, _, rfl, hB, heap_alloc_new W _, Nat.le_refl _, by unfold maxLen; omega, by simpa using hf, by rw [← hf]; exact List.take_length⟩⟩
/-- may n cells be stored there -/
def thereB (w : World) (b o n : Nat) : Bool := match w.heap[b]? with
  | some (.cells C _ (0, 0)) => decide (o + n ≤ C.size)
  | _ => false
theorem thereB_there {w : World} {b o n : Nat} (h : thereB w b o n = true) : w.there b o n := by
  unfold thereB at h
  split at h
  · rename_i C T hb
    simp only [decide_eq_true_eq] at h
    intro j hj
    exact ⟨by rw [cell_of_row w b _ C T (0, 0) hb, Array.getElem?_eq_getElem (by omega)]; rfl, by simp [World.frozen?, hb]⟩
  · cases h
theorem thereB_drew (w : World) (b o n : Nat) : thereB w.drew b o n = thereB w b o n := rfl
theorem thereB_drewN (w : World) (b o n k : Nat) : thereB (w.drewN k) b o n = thereB w b o n := rfl
theorem thereB_new (w : World) (C : Array Value) (T : TypeId) (b o n : Nat) (hb : b = w.heap.size) : thereB (w.alloc (.cells C T)) b o n = decide (o + n ≤ C.size) := by
  subst hb
  simp only [thereB, heap_alloc_new]
theorem thereB_past (w : World) (ob : Obj) (b o n : Nat) (hb : b < w.heap.size) : thereB (w.alloc ob) b o n = thereB w b o n := by
  simp only [thereB, Below.heap_alloc w ob b hb]
theorem Blk.thereB {w : World} {g : Nat} {T : TypeId} {cs : List Value} (h : Blk w g T cs) (o n : Nat) (hn : o + n ≤ cs.length) : thereB w g o n = true := by
  unfold Go.Proofs.YtfjflkmhhbhceaaGreatDoor.thereB
  unfold Blk at h
  simp only [h]
  simpa using hn
theorem putsW_drew (w : World) (b o : Nat) (cs : List Value) : putsW w.drew b o cs = (putsW w b o cs).drew := by
  rw [putsW_eq, putsW_eq]
  induction cs generalizing w o with
  | nil => rfl
  | cons c cs ih => exact ih (w.setCell ⟨b, o, none⟩ c) (o + 1)
theorem putsW_size (w : World) (b o : Nat) (cs : List Value) : (putsW w b o cs).heap.size = w.heap.size := by
  rw [putsW_eq]; exact size_setCells_ b cs o w
theorem setCells_alloc_past (ob : Obj) (n : Nat) : ∀ (vs : List Value) (i : Nat) (u : World), n < u.heap.size → (u.alloc ob).setCells n i vs = (u.setCells n i vs).alloc ob
  | [], _, _, _ => rfl
  | v :: vs, i, u, h => by
    rw [World.setCells, World.setCells, World.setCell_alloc_past _ _ _ _ h]
    exact setCells_alloc_past ob n vs (i + 1) _ (by simpa using h)
theorem putsW_new (w : World) (C : Array Value) (T : TypeId) (b : Nat) (cs : List Value) (hb : b = w.heap.size) (hn : C.size = cs.length) : putsW (w.alloc (.cells C T)) b 0 cs = w.alloc (.cells cs.toArray T) := by
  subst hb
  rw [putsW_eq]
  have := setCells_new w T cs [] C.toList (by simpa using hn)
  simpa using this
theorem putsW_call (w : World) (T : TypeId) (b : Nat) (x : Call) (hb : b = w.heap.size) : putsW (w.alloc (.cells #[.int .i64 0, .string ⟨#[]⟩, .string ⟨#[]⟩, .string ⟨#[]⟩, .string ⟨#[]⟩, .int .i64 0, .int .i64 0, .int .i64 0, .string ⟨#[]⟩, .bool false, .int .i64 0, .bool false, .int .i64 0, .bool false, .int .i64 0, .bool false, .int .i64 0, .bool false, .int .i64 0, .bool false, .int .i64 0, .int .i64 0, .int .i64 0, .string ⟨#[]⟩] T)) b 0 x.vals = w.alloc (.cells x.vals.toArray T) := putsW_new w _ T b x.vals hb rfl
theorem putsW_part (w : World) (T : TypeId) (b : Nat) (x : CPart) (hb : b = w.heap.size) : putsW (w.alloc (.cells #[.int .i64 0, .string ⟨#[]⟩, .string ⟨#[]⟩, .string ⟨#[]⟩, .string ⟨#[]⟩, .int .i64 0, .int .i64 0, .int .i64 0, .string ⟨#[]⟩, .bool false, .int .i64 0, .bool false, .int .i64 0, .bool false, .int .i64 0, .bool false, .int .i64 0, .bool false, .int .i64 0, .bool false, .int .i64 0, .int .i64 0, .int .i64 0, .string ⟨#[]⟩, .int .i64 0, .int .i64 0, .int .i64 0, .int .i64 0, .int .i64 0] T)) b 0 x.vals = w.alloc (.cells x.vals.toArray T) := putsW_new w _ T b x.vals hb rfl
theorem putsW_cred (w : World) (T : TypeId) (b : Nat) (x : Cred) (hb : b = w.heap.size) : putsW (w.alloc (.cells #[.int .i64 0, .int .i64 0, .int .i64 0, .int .i64 0] T)) b 0 x.vals = w.alloc (.cells x.vals.toArray T) := putsW_new w _ T b x.vals hb rfl
theorem putsW_packet (w : World) (T : TypeId) (b : Nat) (x : Packet) (hb : b = w.heap.size) : putsW (w.alloc (.cells #[.int .i64 0, .int .i64 0, .string ⟨#[]⟩] T)) b 0 x.vals = w.alloc (.cells x.vals.toArray T) := putsW_new w _ T b x.vals hb rfl
theorem putsW_place (w : World) (T : TypeId) (b : Nat) (x : CPlace) (hb : b = w.heap.size) : putsW (w.alloc (.cells #[.string ⟨#[]⟩, .int .i64 0, .int .i64 0, .string ⟨#[]⟩] T)) b 0 x.vals = w.alloc (.cells x.vals.toArray T) := putsW_new w _ T b x.vals hb rfl
theorem putsW_ask (w : World) (T : TypeId) (b : Nat) (x : Ask) (hb : b = w.heap.size) : putsW (w.alloc (.cells #[.int .i64 0, .int .i64 0, .int .i64 0, .int .i64 0, .int .i64 0, .int .i64 0, .int .i64 0, .string ⟨#[]⟩, .string ⟨#[]⟩, .string ⟨#[]⟩, .string ⟨#[]⟩, .int .i64 0, .int .i64 0, .int .i64 0, .string ⟨#[]⟩, .bool false, .int .i64 0, .bool false, .int .i64 0, .bool false, .int .i64 0, .bool false, .int .i64 0, .bool false, .int .i64 0, .bool false, .int .i64 0, .int .i64 0, .int .i64 0, .string ⟨#[]⟩] T)) b 0 x.vals = w.alloc (.cells x.vals.toArray T) := putsW_new w _ T b x.vals hb rfl
theorem putsW_message (w : World) (T : TypeId) (b : Nat) (x : Message) (hb : b = w.heap.size) : putsW (w.alloc (.cells #[.int .i64 0, .bool false, .bool false, .int .i64 0, .int .i64 0, .int .i64 0, .int .i64 0, .int .i64 0, .int .i64 0, .string ⟨#[]⟩] T)) b 0 x.vals = w.alloc (.cells x.vals.toArray T) := putsW_new w _ T b x.vals hb rfl
theorem putsW_past (w : World) (ob : Obj) (b o : Nat) (cs : List Value) (hb : b < w.heap.size) : putsW (w.alloc ob) b o cs = (putsW w b o cs).alloc ob := by
  rw [putsW_eq, putsW_eq]
  exact setCells_alloc_past ob b cs o w hb
theorem infoPart33 : (Tryz.prog.info? 91).map (fun i => (i.zero, i.size, i.bytes)) = some (some (.agg partZ33.vals.toArray), 29, 280) := by kernel_rfl
def recdZ33 : Recd := ⟨cred0, 0, 0, callZ, replyZ⟩
theorem infoRecd33 : (Tryz.prog.info? 65).map (fun i => (i.zero, i.size, i.bytes)) = some (some (.agg recdZ33.vals.toArray), 88, 800) := by kernel_rfl
theorem infoPacket33 : (Tryz.prog.info? 40).map (fun i => (i.zero, i.size, i.bytes)) = some (some (.agg packetZ33.vals.toArray), 3, 32) := by kernel_rfl
theorem rowOf_far (w : World) (p : Addr) (v : Value) (b o n : Nat) (h : b ≠ p.block) : rowOf (w.setCell p v) b o n = rowOf w b o n := by
  simp only [rowOf, Below.heap_setCell w p v b h]
theorem rowOf_putsFar (w : World) (b o n k i : Nat) (cs : List Value) (h : b ≠ k) : rowOf (putsW w k i cs) b o n = rowOf w b o n := by
  have ht : Touch (fun j => j = k) w (putsW w k i cs) := by rw [putsW_eq]; exact Touch.setCells (F := fun j => j = k) (g := k) (.inl rfl) cs i w (Touch.refl _ _)
  rcases Nat.lt_or_ge b w.heap.size with hlt | hge
  · exact ht.row hlt h o n
  · have h1 := Array.getElem?_eq_none hge
    have h2 : (putsW w k i cs).heap[b]? = none := Array.getElem?_eq_none (by rw [putsW_size]; exact hge)
    simp only [rowOf, h1, h2]
theorem cell_putsFar (w : World) (b o k i : Nat) (cs : List Value) (h : b ≠ k) (hlt : b < w.heap.size) : (putsW w k i cs).cell? ⟨b, o, none⟩ = w.cell? ⟨b, o, none⟩ := by
  have ht : Touch (fun j => j = k) w (putsW w k i cs) := by rw [putsW_eq]; exact Touch.setCells (F := fun j => j = k) (g := k) (.inl rfl) cs i w (Touch.refl _ _)
  exact ht.cell (p := ⟨b, o, none⟩) hlt h
theorem cell_putsBelow (w : World) (b o i : Nat) (cs : List Value) (h : o < i) : (putsW w b i cs).cell? ⟨b, o, none⟩ = w.cell? ⟨b, o, none⟩ := by
  rw [putsW_eq]
  exact World.cell?_setCells_out b cs i w _ fun _ _ => .inl h
theorem frozen_puts (w : World) (b i : Nat) (cs : List Value) (x : Addr) : (putsW w b i cs).frozen? x = w.frozen? x := by
  rw [putsW_eq]
  exact World.frozen?_setCells b cs i w x
theorem thereB_set (w : World) (p : Addr) (v : Value) (b o n : Nat) : thereB (w.setCell p v) b o n = thereB w b o n := by
  unfold thereB
  by_cases h : b = p.block
  · subst h
    cases hb : w.heap[p.block]? with
    | none =>
      have : (w.setCell p v).heap[p.block]? = none := by simp [World.setCell, Array.getElem?_modify, hb]
      rw [this]
    | some ob =>
      cases ob with
      | cells C T fr =>
        have : ∃ D, (w.setCell p v).heap[p.block]? = some (.cells D T fr) ∧ D.size = C.size := by
          simp only [World.setCell, Array.getElem?_modify, hb, if_true, Option.map_some]
          split <;> exact ⟨_, rfl, by simp⟩
        obtain ⟨D, h1, h2⟩ := this
        rw [h1]
        obtain ⟨f1, f2⟩ := fr
        cases f1 <;> cases f2 <;> simp [h2]
      | _ =>
        have : ∃ o', (w.setCell p v).heap[p.block]? = some o' ∧ (∀ C T fr, o' ≠ .cells C T fr) := by
          simp only [World.setCell, Array.getElem?_modify, hb, if_true, Option.map_some]
          refine ⟨_, rfl, ?_⟩
          intro C T fr hq
          first | cases hq | (split at hq <;> cases hq)
        obtain ⟨o', h1, h2⟩ := this
        rw [h1]
        cases o' <;> first | rfl | (exact absurd rfl (h2 _ _ _))
  · simp only [Below.heap_setCell w p v b h]
theorem thereB_puts (w : World) (b o n k i : Nat) (cs : List Value) : thereB (putsW w k i cs) b o n = thereB w b o n := by
  rw [putsW_eq]
  induction cs generalizing w i with
  | nil => rfl
  | cons c cs ih => rw [World.setCells, ih, thereB_set]
def oneV33 : Value → Bool
  | .int _ _ => true
  | .string _ => true
  | .bool _ => true
  | .slice _ _ _ => true
  | _ => false
def allV33 : List Value → Bool
  | [] => true
  | v :: vs => oneV33 v && allV33 vs
def rowV33 (n : Nat) : Value → Bool
  | .agg cs => decide (cs.toList.length = n) && allV33 cs.toList
  | _ => false
theorem oneV33_one : ∀ v, oneV33 v = true → v.oneCell' = true := by
  intro v h
  cases v <;> first | rfl | cases h
theorem allV33_one : ∀ vs, allV33 vs = true → ∀ v ∈ vs, v.oneCell' = true
  | [], _, v, hv => absurd hv (by simp)
  | u :: us, h, v, hv => by
    unfold allV33 at h
    rw [Bool.and_eq_true] at h
    rcases List.mem_cons.1 hv with rfl | hv
    · exact oneV33_one _ h.1
    · exact allV33_one us h.2 v hv
theorem rowV33_ok {n : Nat} {v : Value} (h : rowV33 n v = true) : rowOk n v := by
  unfold rowV33 at h
  split at h
  · simp only [Bool.and_eq_true, decide_eq_true_eq] at h
    exact ⟨h.1, fun u hu => allV33_one _ h.2 u hu⟩
  · cases h
theorem rowV33_agg (n : Nat) (cs : Array Value) : rowV33 n (.agg cs) = (decide (cs.toList.length = n) && allV33 cs.toList) := rfl
theorem rowV33_call (x : Call) : rowV33 24 (.agg x.vals.toArray) = true := by
  obtain ⟨⟩ := x
  rfl
theorem rowV33_part (x : CPart) : rowV33 29 (.agg x.vals.toArray) = true := by
  obtain ⟨⟩ := x
  rfl
theorem rowV33_place (x : CPlace) : rowV33 4 (.agg x.vals.toArray) = true := by
  obtain ⟨⟩ := x
  rfl
theorem rowV33_cred (x : Cred) : rowV33 4 (.agg x.vals.toArray) = true := by
  obtain ⟨⟩ := x
  rfl
theorem rowV33_packet (x : Packet) : rowV33 3 (.agg x.vals.toArray) = true := by
  obtain ⟨⟩ := x
  rfl
theorem rowV33_message (x : Message) : rowV33 10 (.agg x.vals.toArray) = true := by
  obtain ⟨⟩ := x
  rfl
theorem rowV33_reply (x : Reply) : rowV33 58 (.agg x.vals.toArray) = true := by
  obtain ⟨⟩ := x
  rfl
theorem rowV33_ask (x : Ask) : rowV33 30 (.agg x.vals.toArray) = true := by
  obtain ⟨⟩ := x
  rfl
theorem rowV33_recd (x : Recd) : rowV33 88 (.agg x.vals.toArray) = true := by
  obtain ⟨⟩ := x
  rfl
theorem exStore33 {T : TypeId} {n : Nat} (hi : (Tryz.prog.info? T).map (·.size) = some n) {ρ : Operand → Value} {w : World} {dst : Option Tmp} {ty : TypeId} {pos : String} {after : Array Edge} {g : Option (Nat × Bool)} {x y : Operand} (hx : ptrAt (ρ x) = true) (hy : rowV33 n (ρ y) = true) (ht : thereB w (blkAt (ρ x)) (offAt (ρ x)) n = true) :
    (execOp ρ ⟨dst, .store T x y, ty, pos, after, g⟩).run Tryz.prog w = .ok .skip (putsW w (blkAt (ρ x)) (offAt (ρ x)) (ρ y).cells.toList) :=
  exStoreAt hi hx (rowV33_ok hy) (thereB_there ht)
section
variable {ρ : Operand → Value} {w : World} {dst : Option Tmp} {ty : TypeId} {pos : String} {after : Array Edge} {g : Option (Nat × Bool)} {x y : Operand}
theorem st33Part (hx : ptrAt (ρ x) = true) (hy : rowV33 29 (ρ y) = true) (ht : thereB w (blkAt (ρ x)) (offAt (ρ x)) 29 = true) :
    (execOp ρ ⟨dst, .store 91 x y, ty, pos, after, g⟩).run Tryz.prog w = .ok .skip (putsW w (blkAt (ρ x)) (offAt (ρ x)) (ρ y).cells.toList) := exStore33 (by kernel_rfl) hx hy ht
theorem st33Text (hx : ptrAt (ρ x) = true) (hy : oneV33 (ρ y) = true) (ht : thereB w (blkAt (ρ x)) (offAt (ρ x)) 1 = true) :
    (execOp ρ ⟨dst, .store 9 x y, ty, pos, after, g⟩).run Tryz.prog w = .ok .skip (putsW w (blkAt (ρ x)) (offAt (ρ x)) [ρ y]) := by
  have hc : (ρ y).cells = #[ρ y] := by
    generalize ρ y = v at *
    cases v <;> first | rfl | cases hy
  have := exStoreAt (P := Tryz.prog) (T := 9) (n := 1) (by kernel_rfl) (ρ := ρ) (w := w) (dst := dst) (ty := ty) (pos := pos) (after := after) (g := g) (x := x) (y := y) hx ⟨by rw [hc]; rfl, by rw [hc]; intro u hu; simp at hu; subst hu; exact oneV33_one _ hy⟩ (thereB_there ht)
  rw [this, hc]
theorem st33Place (hx : ptrAt (ρ x) = true) (hy : rowV33 4 (ρ y) = true) (ht : thereB w (blkAt (ρ x)) (offAt (ρ x)) 4 = true) :
    (execOp ρ ⟨dst, .store 87 x y, ty, pos, after, g⟩).run Tryz.prog w = .ok .skip (putsW w (blkAt (ρ x)) (offAt (ρ x)) (ρ y).cells.toList) := exStore33 (by kernel_rfl) hx hy ht
theorem st33Call (hx : ptrAt (ρ x) = true) (hy : rowV33 24 (ρ y) = true) (ht : thereB w (blkAt (ρ x)) (offAt (ρ x)) 24 = true) :
    (execOp ρ ⟨dst, .store 36 x y, ty, pos, after, g⟩).run Tryz.prog w = .ok .skip (putsW w (blkAt (ρ x)) (offAt (ρ x)) (ρ y).cells.toList) := exStore33 (by kernel_rfl) hx hy ht
theorem st33Cred (hx : ptrAt (ρ x) = true) (hy : rowV33 4 (ρ y) = true) (ht : thereB w (blkAt (ρ x)) (offAt (ρ x)) 4 = true) :
    (execOp ρ ⟨dst, .store 63 x y, ty, pos, after, g⟩).run Tryz.prog w = .ok .skip (putsW w (blkAt (ρ x)) (offAt (ρ x)) (ρ y).cells.toList) := exStore33 (by kernel_rfl) hx hy ht
theorem st33Packet (hx : ptrAt (ρ x) = true) (hy : rowV33 3 (ρ y) = true) (ht : thereB w (blkAt (ρ x)) (offAt (ρ x)) 3 = true) :
    (execOp ρ ⟨dst, .store 40 x y, ty, pos, after, g⟩).run Tryz.prog w = .ok .skip (putsW w (blkAt (ρ x)) (offAt (ρ x)) (ρ y).cells.toList) := exStore33 (by kernel_rfl) hx hy ht
theorem st33Message (hx : ptrAt (ρ x) = true) (hy : rowV33 10 (ρ y) = true) (ht : thereB w (blkAt (ρ x)) (offAt (ρ x)) 10 = true) :
    (execOp ρ ⟨dst, .store 81 x y, ty, pos, after, g⟩).run Tryz.prog w = .ok .skip (putsW w (blkAt (ρ x)) (offAt (ρ x)) (ρ y).cells.toList) := exStore33 (by kernel_rfl) hx hy ht
theorem st33Reply (hx : ptrAt (ρ x) = true) (hy : rowV33 58 (ρ y) = true) (ht : thereB w (blkAt (ρ x)) (offAt (ρ x)) 58 = true) :
    (execOp ρ ⟨dst, .store 51 x y, ty, pos, after, g⟩).run Tryz.prog w = .ok .skip (putsW w (blkAt (ρ x)) (offAt (ρ x)) (ρ y).cells.toList) := exStore33 (by kernel_rfl) hx hy ht
theorem st33Ask (hx : ptrAt (ρ x) = true) (hy : rowV33 30 (ρ y) = true) (ht : thereB w (blkAt (ρ x)) (offAt (ρ x)) 30 = true) :
    (execOp ρ ⟨dst, .store 38 x y, ty, pos, after, g⟩).run Tryz.prog w = .ok .skip (putsW w (blkAt (ρ x)) (offAt (ρ x)) (ρ y).cells.toList) := exStore33 (by kernel_rfl) hx hy ht
end
section
variable {ρ : Operand → Value} {w : World} {dst : Option Tmp} {ty : TypeId} {pos : String} {after : Array Edge} {g : Option (Nat × Bool)} {x : Operand}
theorem ld33Part (h : (rowAt w 29 (ρ x)).isSome = true) :
    (execOp ρ ⟨dst, .load 91 x, ty, pos, after, g⟩).run Tryz.prog w = .ok (.value (.agg ((rowAt w 29 (ρ x)).getD #[]))) w := ex_load 91 29 Tryz.underlying91 rfl (by kernel_rfl) h
theorem ld33Place (h : (rowAt w 4 (ρ x)).isSome = true) :
    (execOp ρ ⟨dst, .load 87 x, ty, pos, after, g⟩).run Tryz.prog w = .ok (.value (.agg ((rowAt w 4 (ρ x)).getD #[]))) w := ex_load 87 4 Tryz.underlying87 rfl (by kernel_rfl) h
theorem ld33Call (h : (rowAt w 24 (ρ x)).isSome = true) :
    (execOp ρ ⟨dst, .load 36 x, ty, pos, after, g⟩).run Tryz.prog w = .ok (.value (.agg ((rowAt w 24 (ρ x)).getD #[]))) w := ex_load 36 24 Tryz.underlying36 rfl (by kernel_rfl) h
theorem ld33Cred (h : (rowAt w 4 (ρ x)).isSome = true) :
    (execOp ρ ⟨dst, .load 63 x, ty, pos, after, g⟩).run Tryz.prog w = .ok (.value (.agg ((rowAt w 4 (ρ x)).getD #[]))) w := ex_load 63 4 Tryz.underlying63 rfl (by kernel_rfl) h
theorem ld33Packet (h : (rowAt w 3 (ρ x)).isSome = true) :
    (execOp ρ ⟨dst, .load 40 x, ty, pos, after, g⟩).run Tryz.prog w = .ok (.value (.agg ((rowAt w 3 (ρ x)).getD #[]))) w := ex_load 40 3 Tryz.underlying40 rfl (by kernel_rfl) h
theorem ld33Message (h : (rowAt w 10 (ρ x)).isSome = true) :
    (execOp ρ ⟨dst, .load 81 x, ty, pos, after, g⟩).run Tryz.prog w = .ok (.value (.agg ((rowAt w 10 (ρ x)).getD #[]))) w := ex_load 81 10 Tryz.underlying81 rfl (by kernel_rfl) h
theorem ld33Reply (h : (rowAt w 58 (ρ x)).isSome = true) :
    (execOp ρ ⟨dst, .load 51 x, ty, pos, after, g⟩).run Tryz.prog w = .ok (.value (.agg ((rowAt w 58 (ρ x)).getD #[]))) w := ex_load 51 58 Tryz.underlying51 rfl (by kernel_rfl) h
theorem ld33Ask (h : (rowAt w 30 (ρ x)).isSome = true) :
    (execOp ρ ⟨dst, .load 38 x, ty, pos, after, g⟩).run Tryz.prog w = .ok (.value (.agg ((rowAt w 30 (ρ x)).getD #[]))) w := ex_load 38 30 Tryz.underlying38 rfl (by kernel_rfl) h
theorem ld33Recd (h : (rowAt w 88 (ρ x)).isSome = true) :
    (execOp ρ ⟨dst, .load 65 x, ty, pos, after, g⟩).run Tryz.prog w = .ok (.value (.agg ((rowAt w 88 (ρ x)).getD #[]))) w := ex_load 65 88 Tryz.underlying65 rfl (by kernel_rfl) h
theorem ld33Step (h : (rowAt w 94 (ρ x)).isSome = true) :
    (execOp ρ ⟨dst, .load 53 x, ty, pos, after, g⟩).run Tryz.prog w = .ok (.value (.agg ((rowAt w 94 (ρ x)).getD #[]))) w := ex_load 53 94 Tryz.underlying53 rfl (by kernel_rfl) h
theorem ld33Entry (h : (rowAt w 15 (ρ x)).isSome = true) :
    (execOp ρ ⟨dst, .load 126 x, ty, pos, after, g⟩).run Tryz.prog w = .ok (.value (.agg ((rowAt w 15 (ρ x)).getD #[]))) w := ex_load 126 15 Tryz.underlying126 rfl (by kernel_rfl) h
end
section
variable {w : World} {g : Nat} {T : TypeId} {cs : List Value}
theorem Blk.puts (h : Blk w g T cs) (o : Nat) (vs : List Value) : Blk (putsW w g o vs) g T (setAt cs o vs) := by
  rw [putsW_eq]; exact Blk.sets vs cs o w h
theorem Blk.putsFar {b o : Nat} {vs : List Value} (h : Blk w g T cs) (hg : g ≠ b) : Blk (putsW w b o vs) g T cs := by
  rw [putsW_eq]; exact Blk.farCells hg vs o w h
theorem Touch.puts {F : Nat → Prop} {a b : World} {k o : Nat} {vs : List Value} (h : Touch F a b) (hk : F k ∨ a.heap.size ≤ k) : Touch F a (putsW b k o vs) := by
  rw [putsW_eq]; exact Touch.setCells hk vs o b h
end
end Go.Proofs.YtfjflkmhhbhceaaGreatDoor

/-
  Layer 33, walks: how the document tells that steps are too large. Conditions: machine lengths.
-/
namespace Go.Proofs.YtfjflkmhhbhceaaGreatDoor
open Go.RowKit
open Go.RowKit
attribute [local go_sem ↓] Go.wp_at_zero Go.wp_at_succ
attribute [local go_sem] rowAt_ptr rowOf_drew rowOf_drewN rowOf_alloc_past rowOf_new
attribute [local go_sem ↓] ld33Call ld33Reply

/-- a step is not too large -/
def StepFew (x : StepR) : Prop := x.s.p.data.length ≤ 2100 ∧ cLarge x.s.a.call = false ∧ x.es.length ≤ 70 ∧ x.us.length ≤ 30
def SaysL33 (l : List StepR) (w : World) (e : Ending) (w' : World) : Prop := ∃ b, e = .returned (.bool b) ∧ (b = false → l.length ≤ 40 ∧ ∀ x ∈ l, StepFew x) ∧ Below w.heap.size w w'
theorem SaysL33.yes {l : List StepR} {w w' : World} (hb : Below w.heap.size w w') : SaysL33 l w (.returned (.bool true)) w' := ⟨true, rfl, (fun h => by cases h), hb⟩
theorem SaysL33.no {l : List StepR} {w w' : World} (h : l.length ≤ 40 ∧ ∀ x ∈ l, StepFew x) (hb : Below w.heap.size w w') : SaysL33 l w (.returned (.bool false)) w' := ⟨false, rfl, (fun _ => h), hb⟩
set_option maxRecDepth 20000 in
set_option maxHeartbeats 1600000 in
theorem refLarge33_any (A : Option Addr) (cap : Nat) (l : List StepR) (w : World) (hl : l.length ≤ 9223372036854775807) (hA : At w 94 A (l.map StepR.vals)) (hR : ∀ x ∈ l, x.rep.There w) :
    Calls Tryz.prog 6 #[.slice A l.length cap] w (SaysL33 l w) := by
  have HA := Lib.hid hA
  have HR := Lib.hid hR
  clear hA hR
  go_enter Tryz.func6, Tryz.ntmps6
  go_wp2
  go_loopw [3] (fun i wr => ∃ k : Nat, k ≤ l.length ∧ k ≤ 40 ∧ i = .int .i64 k ∧ (∀ x ∈ l.take k, StepFew x) ∧ Below w.heap.size w wr) (fun i _ => l.length - (intOf i).toNat)
  case atStart => exact ⟨0, Nat.zero_le _, by omega, rfl, (by simp), Below.refl _ _⟩
  case round =>
    obtain ⟨k, hk, hk40, rfl, hok, hb⟩ := hrel
    have HB := Lib.hid hb
    have HO := Lib.hid hok
    have hk0 : (0 : Int) ≤ (k : Int) := Int.natCast_nonneg _
    by_cases hlt : k < l.length ∧ k < 40
    · obtain ⟨hlt, hlt4⟩ := hlt
      have hk1 : (k : Int) < (l.length : Int) := by omega
      have hk4 : (k : Int) < 40 := by omega
      have hiw : IntKind.i64.wrap ((k : Int) + 1) = ((k + 1 : Nat) : Int) := by rw [IntWalk.i64_in _ (by omega)]; omega
      obtain ⟨b1, o1, hna, hb1, -, cc⟩ := rowCell8 StepR.len (by decide) (HA.out.below hb) hlt
      have c33 := cc 33 (.string (bs l[k].s.p.data)) rfl
      have zs := bs_size l[k].s.p.data
      have rc : rowOf wr b1 (o1 + k * 94 + 7) 24 = some l[k].s.a.call.vals.toArray := by
        refine rowOf_of (fun j u hu => ?_) (Call.len _) (by decide)
        have hj : j < 24 := by
          have := (List.getElem?_eq_some_iff.1 hu).1
          exact this
        have h6 := cc (7 + j) u (by
          have e : (l[k].vals.drop 7).take 24 = l[k].s.a.call.vals := rfl
          rw [← e, List.getElem?_take, if_pos hj, List.getElem?_drop] at hu
          exact hu)
        rw [← Nat.add_assoc] at h6
        exact h6
      have rr : rowOf wr b1 (o1 + k * 94 + 34) 58 = some l[k].s.r.vals.toArray := by
        refine rowOf_of (fun j u hu => ?_) (Reply.len _) (by decide)
        have hj : j < 58 := by
          have := (List.getElem?_eq_some_iff.1 hu).1
          exact this
        have h6 := cc (34 + j) u (by
          have e : (l[k].vals.drop 34).take 58 = l[k].s.r.vals := rfl
          rw [← e, List.getElem?_take, if_pos hj, List.getElem?_drop] at hu
          exact hu)
        rw [← Nat.add_assoc] at h6
        exact h6
      have KC := Lib.hid (fun W => refLarge7_any l[k].s.a.call W)
      have KR := Lib.hid (fun (W : World) (h : Below w.heap.size w W) => refLarge8_any l[k].rep W ((HR.out _ (List.getElem_mem hlt)).below h))
      have HNX := Lib.hid (fun (h : StepFew l[k]) => (show ∀ x ∈ l.take (k + 1), StepFew x by
        intro q hq
        rw [take_next _ _ hlt] at hq
        rcases List.mem_append.1 hq with hq | hq
        · exact hok q hq
        · simp only [List.mem_singleton] at hq
          subst hq
          exact h))
      have er : l[k].rep.r = l[k].s.r := rfl
      rw [er] at KR
      clear er
      unfold StepFew at HNX
      generalize l[k].s.p.data = pd at *
      generalize l[k].s.a.call = cl at *
      subst hna
      clear cc hok hb
      by_cases hd : pd.length ≤ 2100
      · have hd1 : ¬ (2100 : Int) < (pd.length : Int) := by omega
        have hd2 : ¬ (2100 : Int) < ((bs pd).size : Int) := by omega
        go_wp2_with fail
        refine (KC.out _).mono ?_
        rintro e w5 ⟨rfl, hb5⟩
        have B5 := Lib.hid (below_then HB.out hb5)
        have E5 := Lib.hid hb5
        clear hb5 KC
        have HD := Lib.hid hd
        clear hd
        cases hcl : cLarge cl
        case true =>
          go_wp2
          all_goals (go_ret; exact SaysL33.yes B5.out)
        have KR2 := Lib.hid (KR.out w5 B5.out)
        clear KR
        have rr5 := (rowOf_below E5.out hb1 (o1 + k * 94 + 34) 58).trans rr
        go_wp2_with fail
        refine KR2.out.mono ?_
        rintro e w6 ⟨b, rfl, hf, hb6⟩
        have B6 := Lib.hid (below_then B5.out hb6)
        cases b
        case true =>
          go_wp2
          all_goals (go_ret; exact SaysL33.yes B6.out)
        have HN := Lib.hid (HNX.out ⟨HD.out, hcl, hf rfl⟩)
        clear hf hb6
        go_wp2
        go_roundw
        case rel => first
          | exact ⟨k + 1, by omega, by omega, by first | rfl | go_num, HN.out, B6.out⟩
          | (repeat apply Exists.intro
             refine ⟨?_, rfl⟩
             exact ⟨k + 1, by omega, by omega, by first | rfl | go_num, HN.out, B6.out⟩)
        case measure => simp [intOf]; omega
      · have hd1 : (2100 : Int) < (pd.length : Int) := by omega
        have hd2 : (2100 : Int) < ((bs pd).size : Int) := by omega
        clear hd
        go_wp2
        all_goals (go_ret; exact SaysL33.yes HB.out)
    · have hE : l.length ≤ k ∨ 40 ≤ k := by omega
      clear hlt hok hb
      by_cases h1 : k < l.length
      · have p1 : (k : Int) < (l.length : Int) := by omega
        have p2 : ¬ (k : Int) < 40 := by omega
        have p3 : (40 : Int) < (l.length : Int) := by omega
        clear hE h1
        go_wp2
        all_goals (go_ret; exact SaysL33.yes HB.out)
      · have p1 : ¬ (k : Int) < (l.length : Int) := by omega
        have p3 : ¬ (40 : Int) < (l.length : Int) := by omega
        obtain rfl : k = l.length := by omega
        have HY := Lib.hid (show l.length ≤ 40 ∧ ∀ x ∈ l, StepFew x from ⟨hk40, by have := HO.out; rw [List.take_of_length_le (Nat.le_refl _)] at this; exact this⟩)
        clear hE h1
        go_wp2
        all_goals (go_ret; exact SaysL33.no HY.out HB.out)
end Go.Proofs.YtfjflkmhhbhceaaGreatDoor


/-
  Structs and slices that are built out of whole structs, as rules of the walk's own simp; a row behind a row. Conditions: sizes.
-/
namespace Go.Proofs.YtfjflkmhhbhceaaGreatDoor
open Go.RowKit

/-- the values of a struct, if it is one -/
def cellsOf (v : Value) : List Value := v.cells.toList
theorem cellsOf_agg (cs : Array Value) : cellsOf (.agg cs) = cs.toList := rfl
@[irreducible] def part3V (A d p : Value) : Value := .agg (A.cells ++ #[d, .int .i64 0, p, .int .i64 0, .int .i64 0])
@[irreducible] def part4V (A d t p : Value) : Value := .agg (A.cells ++ #[d, t, p, .int .i64 0, .int .i64 0])
theorem part3V_is (x : Call) (d p : Int) : part3V (.agg x.vals.toArray) (.int .i64 d) (.int .i64 p) = .agg (CPart.mk x d 0 p 0 0).vals.toArray := by
  unfold part3V
  simp [Value.cells, CPart.vals]
theorem part4V_is (x : Call) (d t p : Int) : part4V (.agg x.vals.toArray) (.int .i64 d) (.int .i64 t) (.int .i64 p) = .agg (CPart.mk x d t p 0 0).vals.toArray := by
  unfold part4V
  simp [Value.cells, CPart.vals]
@[irreducible] def part3Ok (A d p : Value) : Prop := ∃ (x : Call) (i k : Int), A = .agg x.vals.toArray ∧ d = .int .i64 i ∧ p = .int .i64 k
theorem part3Ok_is (x : Call) (i k : Int) : part3Ok (.agg x.vals.toArray) (.int .i64 i) (.int .i64 k) := by
  unfold part3Ok
  exact ⟨x, i, k, rfl, rfl, rfl⟩
@[irreducible] def part4Ok (A d t p : Value) : Prop := ∃ (x : Call) (i j k : Int), A = .agg x.vals.toArray ∧ d = .int .i64 i ∧ t = .int .i64 j ∧ p = .int .i64 k
theorem part4Ok_is (x : Call) (i j k : Int) : part4Ok (.agg x.vals.toArray) (.int .i64 i) (.int .i64 j) (.int .i64 k) := by
  unfold part4Ok
  exact ⟨x, i, j, k, rfl, rfl, rfl, rfl⟩
section
variable {ρ : Operand → Value} {w : World} {dst : Option Tmp} {ty : TypeId} {pos : String} {after : Array Edge} {g : Option (Nat × Bool)} {a b c d : Operand}
theorem runPart3 (x : Call) (i k : Int) (w : World) : (Instr.build 91 #[(0, .agg x.vals.toArray), (1, .int .i64 i), (3, .int .i64 k)]).run Tryz.prog w = .ok (.agg (CPart.mk x i 0 k 0 0).vals.toArray) w := by kernel_rfl
theorem runPart4 (x : Call) (i j k : Int) (w : World) : (Instr.build 91 #[(0, .agg x.vals.toArray), (1, .int .i64 i), (2, .int .i64 j), (3, .int .i64 k)]).run Tryz.prog w = .ok (.agg (CPart.mk x i j k 0 0).vals.toArray) w := by kernel_rfl
theorem exPart3 (h : part3Ok (ρ a) (ρ b) (ρ c)) : (execOp ρ ⟨dst, .build 91 #[(0, a), (1, b), (3, c)], ty, pos, after, g⟩).run Tryz.prog w = .ok (.value (part3V (ρ a) (ρ b) (ρ c))) w := by
  unfold part3Ok at h
  obtain ⟨x, i, k, h1, h2, h4⟩ := h
  rw [h1, h2, h4, part3V_is]
  unfold execOp
  simp only [List.map_toArray, List.map_cons, List.map_nil, h1, h2, h4]
  rw [Sem.run_bind, runPart3]
  rfl
theorem exPart4 (h : part4Ok (ρ a) (ρ b) (ρ d) (ρ c)) : (execOp ρ ⟨dst, .build 91 #[(0, a), (1, b), (2, d), (3, c)], ty, pos, after, g⟩).run Tryz.prog w = .ok (.value (part4V (ρ a) (ρ b) (ρ d) (ρ c))) w := by
  unfold part4Ok at h
  obtain ⟨x, i, j, k, h1, h2, h3, h4⟩ := h
  rw [h1, h2, h3, h4, part4V_is]
  unfold execOp
  simp only [List.map_toArray, List.map_cons, List.map_nil, h1, h2, h3, h4]
  rw [Sem.run_bind, runPart4]
  rfl
end
theorem fill_rowsN {s : Nat} (hs : 0 < s) (base : Array Value) (vs : List Value) (hb : base.size = vs.length * s) (hl : ∀ v ∈ vs, v.cells.size = s) : Instr.fill (fun i => some (i * s, s)) base ((vs.zipIdx 0).map fun x => (x.2, x.1)) = some (vs.flatMap cellsOf).toArray := by
  obtain ⟨r, hr, hsz, hk⟩ := Great.fill_dense hs vs 0 base hl (by rw [Nat.zero_add, hb]; exact Nat.le_refl _)
  rw [hr]
  congr 1
  have hlen : ∀ r ∈ vs.map cellsOf, r.length = s := by
    intro r hr
    obtain ⟨v, hv, rfl⟩ := List.mem_map.1 hr
    exact hl v hv
  have hf := flat_len (vs.map cellsOf) hlen
  rw [List.length_map] at hf
  apply Array.ext_getElem?
  intro k
  have hk2 := hk k
  rw [Nat.zero_mul, Nat.zero_add] at hk2
  rw [hk2]
  have hfm : vs.flatMap cellsOf = (vs.map cellsOf).flatten := List.flatMap_def ..
  by_cases hlt : k < vs.length * s
  · rw [if_pos ⟨Nat.zero_le _, hlt⟩]
    have hq : k / s < vs.length := (Nat.div_lt_iff_lt_mul hs).2 hlt
    have hdm : k / s * s + k % s = k := Nat.div_add_mod' k s
    have hm : k % s < s := Nat.mod_lt _ hs
    have hv := hl _ (List.getElem_mem hq)
    have h1 := flat_get (vs.map cellsOf) hlen (k / s) (cellsOf vs[k / s]) (by rw [List.getElem?_map, List.getElem?_eq_getElem hq]; rfl) (k % s) (vs[k / s].cells[k % s]'(by omega)) (by unfold cellsOf; rw [Array.getElem?_toList, Array.getElem?_eq_getElem (by omega)])
    rw [hdm, ← hfm] at h1
    rw [Nat.sub_zero, List.getElem?_eq_getElem hq]
    simp only [Option.bind_some, List.getElem?_toArray]
    rw [h1, Array.getElem?_eq_getElem (by omega)]
  · rw [if_neg (fun h => hlt h.2), Array.getElem?_eq_none (by omega), List.getElem?_toArray, hfm, List.getElem?_eq_none (by omega)]
theorem rowV33_size {n : Nat} {v : Value} (h : rowV33 n v = true) : v.cells.size = n := by
  have := (rowV33_ok h).1
  simpa using this
theorem run_slice_rows {t e : TypeId} {z : Array Value} {s n by_ : Nat} (hu : Tryz.prog.underlying t = some (.slice e)) (hi : (Tryz.prog.info? e).map (fun i => (i.zero, i.size, i.bytes)) = some (some (.agg z), s, by_)) (h0 : 0 < s) (hs : s ≤ 1000) (vs : List Value) (hn : vs.length = n) (hn0 : 0 < n) (hn1 : n ≤ 1000) (hl : ∀ v ∈ vs, v.cells.size = s) (w : World) :
    (Instr.buildSlice t n ((vs.zipIdx 0).map fun x => (x.2, x.1)).toArray).run Tryz.prog w = .ok (.slice (some ⟨w.heap.size, 0, none⟩) n n) (w.alloc (.cells (vs.flatMap cellsOf).toArray e)) := by
  obtain ⟨i0, hi0, hz, hsize, hby⟩ := info_parts hi
  have hm : n * s ≤ 1000 * 1000 := Nat.mul_le_mul hn1 hs
  have hp : 0 < n * s := Nat.mul_pos hn0 h0
  refine run_buildSlice w t e n _ _ i0 _ hu hi0 hz (by rw [hsize]; omega) (by rw [hsize]; omega) ?_
  rw [hsize]
  exact fill_rowsN h0 _ vs (by simp [hn]) hl
section
variable {ρ : Operand → Value} {w : World} {dst : Option Tmp} {ty : TypeId} {pos : String} {after : Array Edge} {g : Option (Nat × Bool)} {a b c d : Operand}
theorem exSlPart1 (h : rowV33 29 (ρ a) = true) : (execOp ρ ⟨dst, .buildSlice 89 1 #[(0, a)], ty, pos, after, g⟩).run Tryz.prog w = .ok (.value (.slice (some ⟨w.heap.size, 0, none⟩) 1 1)) (w.alloc (.cells (cellsOf (ρ a)).toArray 91)) := by
  have hr := run_slice_rows (s := 29) (n := 1) Tryz.underlying89 infoPart33 (by decide) (by decide) [ρ a] rfl (by decide) (by decide) (fun v hv => by rw [List.mem_singleton] at hv; subst hv; exact rowV33_size h) w
  rw [show [ρ a].flatMap cellsOf = cellsOf (ρ a) by simp] at hr
  unfold execOp
  simp only [List.map_toArray, List.map_cons, List.map_nil]
  rw [Sem.run_bind]
  rw [show (#[(0, ρ a)] : Array (Nat × Value)) = (([ρ a].zipIdx 0).map fun x => (x.2, x.1)).toArray from rfl, hr]
  rfl
theorem exSlPart3 (h1 : rowV33 29 (ρ a) = true) (h2 : rowV33 29 (ρ b) = true) (h3 : rowV33 29 (ρ c) = true) : (execOp ρ ⟨dst, .buildSlice 89 3 #[(0, a), (1, b), (2, c)], ty, pos, after, g⟩).run Tryz.prog w = .ok (.value (.slice (some ⟨w.heap.size, 0, none⟩) 3 3)) (w.alloc (.cells (cellsOf (ρ a) ++ (cellsOf (ρ b) ++ cellsOf (ρ c))).toArray 91)) := by
  have hr := run_slice_rows (s := 29) (n := 3) Tryz.underlying89 infoPart33 (by decide) (by decide) [ρ a, ρ b, ρ c] rfl (by decide) (by decide) (fun v hv => by
    simp only [List.mem_cons, List.not_mem_nil, or_false] at hv
    rcases hv with rfl | rfl | rfl
    · exact rowV33_size h1
    · exact rowV33_size h2
    · exact rowV33_size h3) w
  rw [show [ρ a, ρ b, ρ c].flatMap cellsOf = cellsOf (ρ a) ++ (cellsOf (ρ b) ++ cellsOf (ρ c)) by simp] at hr
  unfold execOp
  simp only [List.map_toArray, List.map_cons, List.map_nil]
  rw [Sem.run_bind]
  rw [show (#[(0, ρ a), (1, ρ b), (2, ρ c)] : Array (Nat × Value)) = (([ρ a, ρ b, ρ c].zipIdx 0).map fun x => (x.2, x.1)).toArray from rfl, hr]
  rfl
theorem exSlRecd1 (h : rowV33 88 (ρ a) = true) : (execOp ρ ⟨dst, .buildSlice 60 1 #[(0, a)], ty, pos, after, g⟩).run Tryz.prog w = .ok (.value (.slice (some ⟨w.heap.size, 0, none⟩) 1 1)) (w.alloc (.cells (cellsOf (ρ a)).toArray 65)) := by
  have hr := run_slice_rows (s := 88) (n := 1) Tryz.underlying60 infoRecd33 (by decide) (by decide) [ρ a] rfl (by decide) (by decide) (fun v hv => by rw [List.mem_singleton] at hv; subst hv; exact rowV33_size h) w
  rw [show [ρ a].flatMap cellsOf = cellsOf (ρ a) by simp] at hr
  unfold execOp
  simp only [List.map_toArray, List.map_cons, List.map_nil]
  rw [Sem.run_bind]
  rw [show (#[(0, ρ a)] : Array (Nat × Value)) = (([ρ a].zipIdx 0).map fun x => (x.2, x.1)).toArray from rfl, hr]
  rfl
theorem exSlPacket1 (h : rowV33 3 (ρ a) = true) : (execOp ρ ⟨dst, .buildSlice 56 1 #[(0, a)], ty, pos, after, g⟩).run Tryz.prog w = .ok (.value (.slice (some ⟨w.heap.size, 0, none⟩) 1 1)) (w.alloc (.cells (cellsOf (ρ a)).toArray 40)) := by
  have hr := run_slice_rows (s := 3) (n := 1) Tryz.underlying56 infoPacket33 (by decide) (by decide) [ρ a] rfl (by decide) (by decide) (fun v hv => by rw [List.mem_singleton] at hv; subst hv; exact rowV33_size h) w
  rw [show [ρ a].flatMap cellsOf = cellsOf (ρ a) by simp] at hr
  unfold execOp
  simp only [List.map_toArray, List.map_cons, List.map_nil]
  rw [Sem.run_bind]
  rw [show (#[(0, ρ a)] : Array (Nat × Value)) = (([ρ a].zipIdx 0).map fun x => (x.2, x.1)).toArray from rfl, hr]
  rfl
end
/-- a row behind a row of the call's own -/
theorem RowS.appendAt {w : World} {B : Nat} {e t ty : TypeId} {sz by_ : Nat} {z : Array Value} {v : Value} {rows : List (List Value)} (hu : Tryz.prog.underlying t = some (.slice e)) (hi : (Tryz.prog.info? e).map (fun i => (i.zero, i.size, i.bytes)) = some (some (.agg z), sz, by_)) (hz : z.size = sz) (h0 : 0 < sz) (hby : by_ ≤ 4096) (h : RowS w B e sz v rows) (hB : B ≤ w.heap.size)
    {b : Nat} {news : List (List Value)} (hb : Blk w b e news.flatten) (hl : ∀ r ∈ news, r.length = sz) (h1 : ∀ r ∈ news, ∀ u ∈ r, u.oneCell' = true) (hn : rows.length + news.length ≤ 1000000000) {k : Nat} (hk : k = news.length) (c : Nat) :
    ∃ v' w', (Builtin.append_ #[t, t] ty #[v, .slice (some ⟨b, 0, none⟩) k c]).run Tryz.prog w = .ok v' w' ∧ (RowS w' B e sz v' (rows ++ news) ∧ w.grownBy w' v.ownBlock ∧ (v'.ownBlock = v.ownBlock ∨ v'.ownBlock = some w.heap.size)) := by
  subst hk
  obtain ⟨i0, hi0, hz0, hsize, hby0⟩ := info_parts hi
  have hfl := flat_len news hl
  obtain ⟨v', w', hrun, hown, hgrow, -, hat⟩ := run_append_own_at (P := Tryz.prog) (w := w) B t ty e i0 (.agg z) sz by_ hu hi0 hz0 hsize hby0 hz h0 v rows.length rows.flatten h.2 ⟨b, 0, none⟩ news.length c news.flatten hfl
    (fun j u hj => by rw [Addr.add_mid, Nat.zero_add, hb.cell]; exact hj) (fun u hu => by
      obtain ⟨r, hr, hu⟩ := List.mem_flatten.1 hu
      exact h1 r hr u hu) (by unfold maxLen; omega) (Nat.le_trans (Nat.mul_le_mul hn hby) (by omega)) hB
  refine ⟨v', w', hrun, ⟨fun q hq => ?_, ?_⟩, hgrow, hat⟩
  · rcases List.mem_append.1 hq with hq | hq
    · exact h.1 q hq
    · exact hl q hq
  · rw [List.length_append, List.flatten_append]
    exact hown
end Go.Proofs.YtfjflkmhhbhceaaGreatDoor
