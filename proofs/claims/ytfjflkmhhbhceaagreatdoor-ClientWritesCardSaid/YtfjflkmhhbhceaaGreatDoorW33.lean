/-
  Stores of whole structs, as rules of the walk's own simp; what a block is behind them. No condition.
-/
import Derived.Test.YtfjflkmhhbhceaaGreatDoorW30
import Derived.Test.YtfjflkmhhbhceaaGreatDoorW32
import Derived.Laws.IdiomCopy
import Derived.Great.BuildSlice
import Derived.Test.YtfjflkmhhbhceaaGreatDoorW04
namespace Go.Proofs.YtfjflkmhhbhceaaGreatDoor
open Go.RowKit

/-- three results, the first a whole struct's cells -/
theorem ret_cells3 {P : Program} {fn : Func} {R : Ending → World → Prop} {a : Act} {w : World} {p q r : Tmp} {ty : TypeId} {d : TypeDesc} (b o : Nat) (cs : List Value) (v u : Value) (hres : fn.results = #[.cell p ty, .tmp q, .tmp r]) (hu : P.underlying ty = some d) (hd : d.isRow = true)
    (hi : (P.info? ty).map (·.size) = some cs.length) (hp : a.tmps.getD p undef = .pointer (some ⟨b, o, none⟩)) (hq : a.tmps.getD q undef = v) (hr : a.tmps.getD r undef = u) (hc : w.rangeAt b o cs) (hdef : a.defers = []) (hR : R (.returned (.tuple #[.agg cs.toArray, v, u])) w) : bodyPost P fn R .ret a w := by
  refine bodyPost_ret (v := .tuple #[.agg cs.toArray, v, u]) ?_ hdef hR
  have hl := run_loadVar_mid (P := P) w b o ty cs d hc hu hd hi
  rw [Array.getD_eq_getD_getElem?] at hp hq hr
  simp [results, hres, hp, hq, hr, asAddr, hl]
/-- rows in a block that was just made -/
theorem RowS.made (W : World) {b B sz : Nat} (e : TypeId) (rows : List (List Value)) (hl : ∀ r ∈ rows, r.length = sz) (hb : b = W.heap.size) (hB : B ≤ b) (hn : rows.length ≤ 1000000) {k : Nat} (hk : k = rows.length) :
    RowS (W.alloc (.cells rows.flatten.toArray e)) B e sz (.slice (some ⟨b, 0, none⟩) k k) rows := by
  subst hb hk
  have hf := flat_len rows hl
  exact ⟨hl, hf, .inr ⟨W.heap.size, rows.length, _, rfl, hB, heap_alloc_new W _, Nat.le_refl _, by unfold maxLen; omega, by simpa using hf, by rw [← hf]; exact List.take_length⟩⟩
/-- may n cells be stored there -/
def thereB (w : World) (b o n : Nat) : Bool := match w.heap[b]? with
  | some (.cells C _ (0, 0)) => decide (o + n ≤ C.size)
  | _ => false
theorem thereB_there {w : World} {b o n : Nat} (h : thereB w b o n = true) : w.there b o n := by
  unfold thereB at h
  split at h
  · rename_i C T hb
    simp only [decide_eq_true_eq] at h
    intro j hj
    exact ⟨by rw [cell_of_row w b _ C T (0, 0) hb, Array.getElem?_eq_getElem (by omega)]; rfl, by simp [World.frozen?, hb]⟩
  · cases h
theorem thereB_drew (w : World) (b o n : Nat) : thereB w.drew b o n = thereB w b o n := rfl
theorem thereB_drewN (w : World) (b o n k : Nat) : thereB (w.drewN k) b o n = thereB w b o n := rfl
theorem thereB_new (w : World) (C : Array Value) (T : TypeId) (b o n : Nat) (hb : b = w.heap.size) : thereB (w.alloc (.cells C T)) b o n = decide (o + n ≤ C.size) := by
  subst hb
  simp only [thereB, heap_alloc_new]
theorem thereB_past (w : World) (ob : Obj) (b o n : Nat) (hb : b < w.heap.size) : thereB (w.alloc ob) b o n = thereB w b o n := by
  simp only [thereB, Below.heap_alloc w ob b hb]
theorem Blk.thereB {w : World} {g : Nat} {T : TypeId} {cs : List Value} (h : Blk w g T cs) (o n : Nat) (hn : o + n ≤ cs.length) : thereB w g o n = true := by
  unfold Go.Proofs.YtfjflkmhhbhceaaGreatDoor.thereB
  unfold Blk at h
  simp only [h]
  simpa using hn
theorem putsW_drew (w : World) (b o : Nat) (cs : List Value) : putsW w.drew b o cs = (putsW w b o cs).drew := by
  rw [putsW_eq, putsW_eq]
  induction cs generalizing w o with
  | nil => rfl
  | cons c cs ih => exact ih (w.setCell ⟨b, o, none⟩ c) (o + 1)
theorem putsW_size (w : World) (b o : Nat) (cs : List Value) : (putsW w b o cs).heap.size = w.heap.size := by
  rw [putsW_eq]; exact size_setCells_ b cs o w
theorem setCells_alloc_past (ob : Obj) (n : Nat) : ∀ (vs : List Value) (i : Nat) (u : World), n < u.heap.size → (u.alloc ob).setCells n i vs = (u.setCells n i vs).alloc ob
  | [], _, _, _ => rfl
  | v :: vs, i, u, h => by
    rw [World.setCells, World.setCells, World.setCell_alloc_past _ _ _ _ h]
    exact setCells_alloc_past ob n vs (i + 1) _ (by simpa using h)
theorem putsW_new (w : World) (C : Array Value) (T : TypeId) (b : Nat) (cs : List Value) (hb : b = w.heap.size) (hn : C.size = cs.length) : putsW (w.alloc (.cells C T)) b 0 cs = w.alloc (.cells cs.toArray T) := by
  subst hb
  rw [putsW_eq]
  have := setCells_new w T cs [] C.toList (by simpa using hn)
  simpa using this
theorem putsW_call (w : World) (T : TypeId) (b : Nat) (x : Call) (hb : b = w.heap.size) : putsW (w.alloc (.cells #[.int .i64 0, .string ⟨#[]⟩, .string ⟨#[]⟩, .string ⟨#[]⟩, .string ⟨#[]⟩, .int .i64 0, .int .i64 0, .int .i64 0, .string ⟨#[]⟩, .bool false, .int .i64 0, .bool false, .int .i64 0, .bool false, .int .i64 0, .bool false, .int .i64 0, .bool false, .int .i64 0, .bool false, .int .i64 0, .int .i64 0, .int .i64 0, .string ⟨#[]⟩] T)) b 0 x.vals = w.alloc (.cells x.vals.toArray T) := putsW_new w _ T b x.vals hb rfl
theorem putsW_cred (w : World) (T : TypeId) (b : Nat) (x : Cred) (hb : b = w.heap.size) : putsW (w.alloc (.cells #[.int .i64 0, .int .i64 0, .int .i64 0, .int .i64 0] T)) b 0 x.vals = w.alloc (.cells x.vals.toArray T) := putsW_new w _ T b x.vals hb rfl
theorem putsW_ask (w : World) (T : TypeId) (b : Nat) (x : Ask) (hb : b = w.heap.size) : putsW (w.alloc (.cells #[.int .i64 0, .int .i64 0, .int .i64 0, .int .i64 0, .int .i64 0, .int .i64 0, .int .i64 0, .string ⟨#[]⟩, .string ⟨#[]⟩, .string ⟨#[]⟩, .string ⟨#[]⟩, .int .i64 0, .int .i64 0, .int .i64 0, .string ⟨#[]⟩, .bool false, .int .i64 0, .bool false, .int .i64 0, .bool false, .int .i64 0, .bool false, .int .i64 0, .bool false, .int .i64 0, .bool false, .int .i64 0, .int .i64 0, .int .i64 0, .string ⟨#[]⟩] T)) b 0 x.vals = w.alloc (.cells x.vals.toArray T) := putsW_new w _ T b x.vals hb rfl
theorem putsW_message (w : World) (T : TypeId) (b : Nat) (x : Message) (hb : b = w.heap.size) : putsW (w.alloc (.cells #[.int .i64 0, .bool false, .bool false, .int .i64 0, .int .i64 0, .int .i64 0, .int .i64 0, .int .i64 0, .int .i64 0, .string ⟨#[]⟩] T)) b 0 x.vals = w.alloc (.cells x.vals.toArray T) := putsW_new w _ T b x.vals hb rfl
theorem putsW_past (w : World) (ob : Obj) (b o : Nat) (cs : List Value) (hb : b < w.heap.size) : putsW (w.alloc ob) b o cs = (putsW w b o cs).alloc ob := by
  rw [putsW_eq, putsW_eq]
  exact setCells_alloc_past ob b cs o w hb
theorem infoPart33 : (Tryz.prog.info? 91).map (fun i => (i.zero, i.size, i.bytes)) = some (some (.agg partZ33.vals.toArray), 29, 280) := by kernel_rfl
def recdZ33 : Recd := ⟨cred0, 0, 0, callZ, replyZ⟩
theorem infoRecd33 : (Tryz.prog.info? 65).map (fun i => (i.zero, i.size, i.bytes)) = some (some (.agg recdZ33.vals.toArray), 88, 800) := by kernel_rfl
theorem infoPacket33 : (Tryz.prog.info? 40).map (fun i => (i.zero, i.size, i.bytes)) = some (some (.agg packetZ33.vals.toArray), 3, 32) := by kernel_rfl
theorem rowOf_far (w : World) (p : Addr) (v : Value) (b o n : Nat) (h : b ≠ p.block) : rowOf (w.setCell p v) b o n = rowOf w b o n := by
  simp only [rowOf, Below.heap_setCell w p v b h]
theorem rowOf_putsFar (w : World) (b o n k i : Nat) (cs : List Value) (h : b ≠ k) : rowOf (putsW w k i cs) b o n = rowOf w b o n := by
  have ht : Touch (fun j => j = k) w (putsW w k i cs) := by rw [putsW_eq]; exact Touch.setCells (F := fun j => j = k) (g := k) (.inl rfl) cs i w (Touch.refl _ _)
  rcases Nat.lt_or_ge b w.heap.size with hlt | hge
  · exact ht.row hlt h o n
  · have h1 := Array.getElem?_eq_none hge
    have h2 : (putsW w k i cs).heap[b]? = none := Array.getElem?_eq_none (by rw [putsW_size]; exact hge)
    simp only [rowOf, h1, h2]
theorem cell_putsFar (w : World) (b o k i : Nat) (cs : List Value) (h : b ≠ k) (hlt : b < w.heap.size) : (putsW w k i cs).cell? ⟨b, o, none⟩ = w.cell? ⟨b, o, none⟩ := by
  have ht : Touch (fun j => j = k) w (putsW w k i cs) := by rw [putsW_eq]; exact Touch.setCells (F := fun j => j = k) (g := k) (.inl rfl) cs i w (Touch.refl _ _)
  exact ht.cell (p := ⟨b, o, none⟩) hlt h
theorem cell_putsBelow (w : World) (b o i : Nat) (cs : List Value) (h : o < i) : (putsW w b i cs).cell? ⟨b, o, none⟩ = w.cell? ⟨b, o, none⟩ := by
  rw [putsW_eq]
  exact World.cell?_setCells_out b cs i w _ fun _ _ => .inl h
theorem frozen_puts (w : World) (b i : Nat) (cs : List Value) (x : Addr) : (putsW w b i cs).frozen? x = w.frozen? x := by
  rw [putsW_eq]
  exact World.frozen?_setCells b cs i w x
theorem thereB_set (w : World) (p : Addr) (v : Value) (b o n : Nat) : thereB (w.setCell p v) b o n = thereB w b o n := by
  unfold thereB
  by_cases h : b = p.block
  · subst h
    cases hb : w.heap[p.block]? with
    | none =>
      have : (w.setCell p v).heap[p.block]? = none := by simp [World.setCell, Array.getElem?_modify, hb]
      rw [this]
    | some ob =>
      cases ob with
      | cells C T fr =>
        have : ∃ D, (w.setCell p v).heap[p.block]? = some (.cells D T fr) ∧ D.size = C.size := by
          simp only [World.setCell, Array.getElem?_modify, hb, if_true, Option.map_some]
          split <;> exact ⟨_, rfl, by simp⟩
        obtain ⟨D, h1, h2⟩ := this
        rw [h1]
        obtain ⟨f1, f2⟩ := fr
        cases f1 <;> cases f2 <;> simp [h2]
      | _ =>
        have : ∃ o', (w.setCell p v).heap[p.block]? = some o' ∧ (∀ C T fr, o' ≠ .cells C T fr) := by
          simp only [World.setCell, Array.getElem?_modify, hb, if_true, Option.map_some]
          refine ⟨_, rfl, ?_⟩
          intro C T fr hq
          first | cases hq | (split at hq <;> cases hq)
        obtain ⟨o', h1, h2⟩ := this
        rw [h1]
        cases o' <;> first | rfl | (exact absurd rfl (h2 _ _ _))
  · simp only [Below.heap_setCell w p v b h]
theorem thereB_puts (w : World) (b o n k i : Nat) (cs : List Value) : thereB (putsW w k i cs) b o n = thereB w b o n := by
  rw [putsW_eq]
  induction cs generalizing w i with
  | nil => rfl
  | cons c cs ih => rw [World.setCells, ih, thereB_set]
def oneV33 : Value → Bool
  | .int _ _ => true
  | .string _ => true
  | .bool _ => true
  | .slice _ _ _ => true
  | _ => false
def allV33 : List Value → Bool
  | [] => true
  | v :: vs => oneV33 v && allV33 vs
def rowV33 (n : Nat) : Value → Bool
  | .agg cs => decide (cs.toList.length = n) && allV33 cs.toList
  | _ => false
theorem oneV33_one : ∀ v, oneV33 v = true → v.oneCell' = true := by
  intro v h
  cases v <;> first | rfl | cases h
theorem allV33_one : ∀ vs, allV33 vs = true → ∀ v ∈ vs, v.oneCell' = true
  | [], _, v, hv => absurd hv (by simp)
  | u :: us, h, v, hv => by
    unfold allV33 at h
    rw [Bool.and_eq_true] at h
    rcases List.mem_cons.1 hv with rfl | hv
    · exact oneV33_one _ h.1
    · exact allV33_one us h.2 v hv
theorem rowV33_ok {n : Nat} {v : Value} (h : rowV33 n v = true) : rowOk n v := by
  unfold rowV33 at h
  split at h
  · simp only [Bool.and_eq_true, decide_eq_true_eq] at h
    exact ⟨h.1, fun u hu => allV33_one _ h.2 u hu⟩
  · cases h
theorem rowV33_agg (n : Nat) (cs : Array Value) : rowV33 n (.agg cs) = (decide (cs.toList.length = n) && allV33 cs.toList) := rfl
theorem rowV33_call (x : Call) : rowV33 24 (.agg x.vals.toArray) = true := by
  obtain ⟨⟩ := x
  rfl
theorem rowV33_part (x : CPart) : rowV33 29 (.agg x.vals.toArray) = true := by
  obtain ⟨⟩ := x
  rfl
theorem rowV33_packet (x : Packet) : rowV33 3 (.agg x.vals.toArray) = true := by
  obtain ⟨⟩ := x
  rfl
theorem rowV33_message (x : Message) : rowV33 10 (.agg x.vals.toArray) = true := by
  obtain ⟨⟩ := x
  rfl
theorem rowV33_reply (x : Reply) : rowV33 58 (.agg x.vals.toArray) = true := by
  obtain ⟨⟩ := x
  rfl
theorem rowV33_ask (x : Ask) : rowV33 30 (.agg x.vals.toArray) = true := by
  obtain ⟨⟩ := x
  rfl
theorem exStore33 {T : TypeId} {n : Nat} (hi : (Tryz.prog.info? T).map (·.size) = some n) {ρ : Operand → Value} {w : World} {dst : Option Tmp} {ty : TypeId} {pos : String} {after : Array Edge} {g : Option (Nat × Bool)} {x y : Operand} (hx : ptrAt (ρ x) = true) (hy : rowV33 n (ρ y) = true) (ht : thereB w (blkAt (ρ x)) (offAt (ρ x)) n = true) :
    (execOp ρ ⟨dst, .store T x y, ty, pos, after, g⟩).run Tryz.prog w = .ok .skip (putsW w (blkAt (ρ x)) (offAt (ρ x)) (ρ y).cells.toList) :=
  exStoreAt hi hx (rowV33_ok hy) (thereB_there ht)
section
variable {ρ : Operand → Value} {w : World} {dst : Option Tmp} {ty : TypeId} {pos : String} {after : Array Edge} {g : Option (Nat × Bool)} {x y : Operand}
theorem st33Part (hx : ptrAt (ρ x) = true) (hy : rowV33 29 (ρ y) = true) (ht : thereB w (blkAt (ρ x)) (offAt (ρ x)) 29 = true) :
    (execOp ρ ⟨dst, .store 91 x y, ty, pos, after, g⟩).run Tryz.prog w = .ok .skip (putsW w (blkAt (ρ x)) (offAt (ρ x)) (ρ y).cells.toList) := exStore33 (by kernel_rfl) hx hy ht
theorem st33Text (hx : ptrAt (ρ x) = true) (hy : oneV33 (ρ y) = true) (ht : thereB w (blkAt (ρ x)) (offAt (ρ x)) 1 = true) :
    (execOp ρ ⟨dst, .store 9 x y, ty, pos, after, g⟩).run Tryz.prog w = .ok .skip (putsW w (blkAt (ρ x)) (offAt (ρ x)) [ρ y]) := by
  have hc : (ρ y).cells = #[ρ y] := by
    generalize ρ y = v at *
    cases v <;> first | rfl | cases hy
  have := exStoreAt (P := Tryz.prog) (T := 9) (n := 1) (by kernel_rfl) (ρ := ρ) (w := w) (dst := dst) (ty := ty) (pos := pos) (after := after) (g := g) (x := x) (y := y) hx ⟨by rw [hc]; rfl, by rw [hc]; intro u hu; simp at hu; subst hu; exact oneV33_one _ hy⟩ (thereB_there ht)
  rw [this, hc]
theorem st33Place (hx : ptrAt (ρ x) = true) (hy : rowV33 4 (ρ y) = true) (ht : thereB w (blkAt (ρ x)) (offAt (ρ x)) 4 = true) :
    (execOp ρ ⟨dst, .store 87 x y, ty, pos, after, g⟩).run Tryz.prog w = .ok .skip (putsW w (blkAt (ρ x)) (offAt (ρ x)) (ρ y).cells.toList) := exStore33 (by kernel_rfl) hx hy ht
theorem st33Call (hx : ptrAt (ρ x) = true) (hy : rowV33 24 (ρ y) = true) (ht : thereB w (blkAt (ρ x)) (offAt (ρ x)) 24 = true) :
    (execOp ρ ⟨dst, .store 36 x y, ty, pos, after, g⟩).run Tryz.prog w = .ok .skip (putsW w (blkAt (ρ x)) (offAt (ρ x)) (ρ y).cells.toList) := exStore33 (by kernel_rfl) hx hy ht
theorem st33Cred (hx : ptrAt (ρ x) = true) (hy : rowV33 4 (ρ y) = true) (ht : thereB w (blkAt (ρ x)) (offAt (ρ x)) 4 = true) :
    (execOp ρ ⟨dst, .store 63 x y, ty, pos, after, g⟩).run Tryz.prog w = .ok .skip (putsW w (blkAt (ρ x)) (offAt (ρ x)) (ρ y).cells.toList) := exStore33 (by kernel_rfl) hx hy ht
theorem st33Packet (hx : ptrAt (ρ x) = true) (hy : rowV33 3 (ρ y) = true) (ht : thereB w (blkAt (ρ x)) (offAt (ρ x)) 3 = true) :
    (execOp ρ ⟨dst, .store 40 x y, ty, pos, after, g⟩).run Tryz.prog w = .ok .skip (putsW w (blkAt (ρ x)) (offAt (ρ x)) (ρ y).cells.toList) := exStore33 (by kernel_rfl) hx hy ht
theorem st33Message (hx : ptrAt (ρ x) = true) (hy : rowV33 10 (ρ y) = true) (ht : thereB w (blkAt (ρ x)) (offAt (ρ x)) 10 = true) :
    (execOp ρ ⟨dst, .store 81 x y, ty, pos, after, g⟩).run Tryz.prog w = .ok .skip (putsW w (blkAt (ρ x)) (offAt (ρ x)) (ρ y).cells.toList) := exStore33 (by kernel_rfl) hx hy ht
theorem st33Reply (hx : ptrAt (ρ x) = true) (hy : rowV33 58 (ρ y) = true) (ht : thereB w (blkAt (ρ x)) (offAt (ρ x)) 58 = true) :
    (execOp ρ ⟨dst, .store 51 x y, ty, pos, after, g⟩).run Tryz.prog w = .ok .skip (putsW w (blkAt (ρ x)) (offAt (ρ x)) (ρ y).cells.toList) := exStore33 (by kernel_rfl) hx hy ht
theorem st33Ask (hx : ptrAt (ρ x) = true) (hy : rowV33 30 (ρ y) = true) (ht : thereB w (blkAt (ρ x)) (offAt (ρ x)) 30 = true) :
    (execOp ρ ⟨dst, .store 38 x y, ty, pos, after, g⟩).run Tryz.prog w = .ok .skip (putsW w (blkAt (ρ x)) (offAt (ρ x)) (ρ y).cells.toList) := exStore33 (by kernel_rfl) hx hy ht
end
section
variable {ρ : Operand → Value} {w : World} {dst : Option Tmp} {ty : TypeId} {pos : String} {after : Array Edge} {g : Option (Nat × Bool)} {x : Operand}
theorem ld33Part (h : (rowAt w 29 (ρ x)).isSome = true) :
    (execOp ρ ⟨dst, .load 91 x, ty, pos, after, g⟩).run Tryz.prog w = .ok (.value (.agg ((rowAt w 29 (ρ x)).getD #[]))) w := ex_load 91 29 Tryz.underlying91 rfl (by kernel_rfl) h
theorem ld33Place (h : (rowAt w 4 (ρ x)).isSome = true) :
    (execOp ρ ⟨dst, .load 87 x, ty, pos, after, g⟩).run Tryz.prog w = .ok (.value (.agg ((rowAt w 4 (ρ x)).getD #[]))) w := ex_load 87 4 Tryz.underlying87 rfl (by kernel_rfl) h
theorem ld33Call (h : (rowAt w 24 (ρ x)).isSome = true) :
    (execOp ρ ⟨dst, .load 36 x, ty, pos, after, g⟩).run Tryz.prog w = .ok (.value (.agg ((rowAt w 24 (ρ x)).getD #[]))) w := ex_load 36 24 Tryz.underlying36 rfl (by kernel_rfl) h
theorem ld33Cred (h : (rowAt w 4 (ρ x)).isSome = true) :
    (execOp ρ ⟨dst, .load 63 x, ty, pos, after, g⟩).run Tryz.prog w = .ok (.value (.agg ((rowAt w 4 (ρ x)).getD #[]))) w := ex_load 63 4 Tryz.underlying63 rfl (by kernel_rfl) h
theorem ld33Packet (h : (rowAt w 3 (ρ x)).isSome = true) :
    (execOp ρ ⟨dst, .load 40 x, ty, pos, after, g⟩).run Tryz.prog w = .ok (.value (.agg ((rowAt w 3 (ρ x)).getD #[]))) w := ex_load 40 3 Tryz.underlying40 rfl (by kernel_rfl) h
theorem ld33Message (h : (rowAt w 10 (ρ x)).isSome = true) :
    (execOp ρ ⟨dst, .load 81 x, ty, pos, after, g⟩).run Tryz.prog w = .ok (.value (.agg ((rowAt w 10 (ρ x)).getD #[]))) w := ex_load 81 10 Tryz.underlying81 rfl (by kernel_rfl) h
theorem ld33Reply (h : (rowAt w 58 (ρ x)).isSome = true) :
    (execOp ρ ⟨dst, .load 51 x, ty, pos, after, g⟩).run Tryz.prog w = .ok (.value (.agg ((rowAt w 58 (ρ x)).getD #[]))) w := ex_load 51 58 Tryz.underlying51 rfl (by kernel_rfl) h
theorem ld33Ask (h : (rowAt w 30 (ρ x)).isSome = true) :
    (execOp ρ ⟨dst, .load 38 x, ty, pos, after, g⟩).run Tryz.prog w = .ok (.value (.agg ((rowAt w 30 (ρ x)).getD #[]))) w := ex_load 38 30 Tryz.underlying38 rfl (by kernel_rfl) h
theorem ld33Entry (h : (rowAt w 15 (ρ x)).isSome = true) :
    (execOp ρ ⟨dst, .load 126 x, ty, pos, after, g⟩).run Tryz.prog w = .ok (.value (.agg ((rowAt w 15 (ρ x)).getD #[]))) w := ex_load 126 15 Tryz.underlying126 rfl (by kernel_rfl) h
end
section
variable {w : World} {g : Nat} {T : TypeId} {cs : List Value}
theorem Blk.puts (h : Blk w g T cs) (o : Nat) (vs : List Value) : Blk (putsW w g o vs) g T (setAt cs o vs) := by
  rw [putsW_eq]; exact Blk.sets vs cs o w h
theorem Blk.putsFar {b o : Nat} {vs : List Value} (h : Blk w g T cs) (hg : g ≠ b) : Blk (putsW w b o vs) g T cs := by
  rw [putsW_eq]; exact Blk.farCells hg vs o w h
theorem Touch.puts {F : Nat → Prop} {a b : World} {k o : Nat} {vs : List Value} (h : Touch F a b) (hk : F k ∨ a.heap.size ≤ k) : Touch F a (putsW b k o vs) := by
  rw [putsW_eq]; exact Touch.setCells hk vs o b h
end
end Go.Proofs.YtfjflkmhhbhceaaGreatDoor

/-
  Structs and slices that are built out of whole structs, as rules of the walk's own simp; a row behind a row. Conditions: sizes.
-/
namespace Go.Proofs.YtfjflkmhhbhceaaGreatDoor
open Go.RowKit

/-- the values of a struct, if it is one -/
def cellsOf (v : Value) : List Value := v.cells.toList
theorem cellsOf_agg (cs : Array Value) : cellsOf (.agg cs) = cs.toList := rfl
@[irreducible] def part3V (A d p : Value) : Value := .agg (A.cells ++ #[d, .int .i64 0, p, .int .i64 0, .int .i64 0])
@[irreducible] def part4V (A d t p : Value) : Value := .agg (A.cells ++ #[d, t, p, .int .i64 0, .int .i64 0])
@[irreducible] def part3Ok (A d p : Value) : Prop := ∃ (x : Call) (i k : Int), A = .agg x.vals.toArray ∧ d = .int .i64 i ∧ p = .int .i64 k
@[irreducible] def part4Ok (A d t p : Value) : Prop := ∃ (x : Call) (i j k : Int), A = .agg x.vals.toArray ∧ d = .int .i64 i ∧ t = .int .i64 j ∧ p = .int .i64 k
section
variable {ρ : Operand → Value} {w : World} {dst : Option Tmp} {ty : TypeId} {pos : String} {after : Array Edge} {g : Option (Nat × Bool)} {a b c d : Operand}
end
theorem fill_rowsN {s : Nat} (hs : 0 < s) (base : Array Value) (vs : List Value) (hb : base.size = vs.length * s) (hl : ∀ v ∈ vs, v.cells.size = s) : Instr.fill (fun i => some (i * s, s)) base ((vs.zipIdx 0).map fun x => (x.2, x.1)) = some (vs.flatMap cellsOf).toArray := by
  obtain ⟨r, hr, hsz, hk⟩ := Great.fill_dense hs vs 0 base hl (by rw [Nat.zero_add, hb]; exact Nat.le_refl _)
  rw [hr]
  congr 1
  have hlen : ∀ r ∈ vs.map cellsOf, r.length = s := by
    intro r hr
    obtain ⟨v, hv, rfl⟩ := List.mem_map.1 hr
    exact hl v hv
  have hf := flat_len (vs.map cellsOf) hlen
  rw [List.length_map] at hf
  apply Array.ext_getElem?
  intro k
  have hk2 := hk k
  rw [Nat.zero_mul, Nat.zero_add] at hk2
  rw [hk2]
  have hfm : vs.flatMap cellsOf = (vs.map cellsOf).flatten := List.flatMap_def ..
  by_cases hlt : k < vs.length * s
  · rw [if_pos ⟨Nat.zero_le _, hlt⟩]
    have hq : k / s < vs.length := (Nat.div_lt_iff_lt_mul hs).2 hlt
    have hdm : k / s * s + k % s = k := Nat.div_add_mod' k s
    have hm : k % s < s := Nat.mod_lt _ hs
    have hv := hl _ (List.getElem_mem hq)
    have h1 := flat_get (vs.map cellsOf) hlen (k / s) (cellsOf vs[k / s]) (by rw [List.getElem?_map, List.getElem?_eq_getElem hq]; rfl) (k % s) (vs[k / s].cells[k % s]'(by omega)) (by unfold cellsOf; rw [Array.getElem?_toList, Array.getElem?_eq_getElem (by omega)])
    rw [hdm, ← hfm] at h1
    rw [Nat.sub_zero, List.getElem?_eq_getElem hq]
    simp only [Option.bind_some, List.getElem?_toArray]
    rw [h1, Array.getElem?_eq_getElem (by omega)]
  · rw [if_neg (fun h => hlt h.2), Array.getElem?_eq_none (by omega), List.getElem?_toArray, hfm, List.getElem?_eq_none (by omega)]
theorem rowV33_size {n : Nat} {v : Value} (h : rowV33 n v = true) : v.cells.size = n := by
  have := (rowV33_ok h).1
  simpa using this
theorem run_slice_rows {t e : TypeId} {z : Array Value} {s n by_ : Nat} (hu : Tryz.prog.underlying t = some (.slice e)) (hi : (Tryz.prog.info? e).map (fun i => (i.zero, i.size, i.bytes)) = some (some (.agg z), s, by_)) (h0 : 0 < s) (hs : s ≤ 1000) (vs : List Value) (hn : vs.length = n) (hn0 : 0 < n) (hn1 : n ≤ 1000) (hl : ∀ v ∈ vs, v.cells.size = s) (w : World) :
    (Instr.buildSlice t n ((vs.zipIdx 0).map fun x => (x.2, x.1)).toArray).run Tryz.prog w = .ok (.slice (some ⟨w.heap.size, 0, none⟩) n n) (w.alloc (.cells (vs.flatMap cellsOf).toArray e)) := by
  obtain ⟨i0, hi0, hz, hsize, hby⟩ := info_parts hi
  have hm : n * s ≤ 1000 * 1000 := Nat.mul_le_mul hn1 hs
  have hp : 0 < n * s := Nat.mul_pos hn0 h0
  refine run_buildSlice w t e n _ _ i0 _ hu hi0 hz (by rw [hsize]; omega) (by rw [hsize]; omega) ?_
  rw [hsize]
  exact fill_rowsN h0 _ vs (by simp [hn]) hl
section
variable {ρ : Operand → Value} {w : World} {dst : Option Tmp} {ty : TypeId} {pos : String} {after : Array Edge} {g : Option (Nat × Bool)} {a b c d : Operand}
theorem exSlPart1 (h : rowV33 29 (ρ a) = true) : (execOp ρ ⟨dst, .buildSlice 89 1 #[(0, a)], ty, pos, after, g⟩).run Tryz.prog w = .ok (.value (.slice (some ⟨w.heap.size, 0, none⟩) 1 1)) (w.alloc (.cells (cellsOf (ρ a)).toArray 91)) := by
  have hr := run_slice_rows (s := 29) (n := 1) Tryz.underlying89 infoPart33 (by decide) (by decide) [ρ a] rfl (by decide) (by decide) (fun v hv => by rw [List.mem_singleton] at hv; subst hv; exact rowV33_size h) w
  rw [show [ρ a].flatMap cellsOf = cellsOf (ρ a) by simp] at hr
  unfold execOp
  simp only [List.map_toArray, List.map_cons, List.map_nil]
  rw [Sem.run_bind]
  rw [show (#[(0, ρ a)] : Array (Nat × Value)) = (([ρ a].zipIdx 0).map fun x => (x.2, x.1)).toArray from rfl, hr]
  rfl
theorem exSlPart3 (h1 : rowV33 29 (ρ a) = true) (h2 : rowV33 29 (ρ b) = true) (h3 : rowV33 29 (ρ c) = true) : (execOp ρ ⟨dst, .buildSlice 89 3 #[(0, a), (1, b), (2, c)], ty, pos, after, g⟩).run Tryz.prog w = .ok (.value (.slice (some ⟨w.heap.size, 0, none⟩) 3 3)) (w.alloc (.cells (cellsOf (ρ a) ++ (cellsOf (ρ b) ++ cellsOf (ρ c))).toArray 91)) := by
  have hr := run_slice_rows (s := 29) (n := 3) Tryz.underlying89 infoPart33 (by decide) (by decide) [ρ a, ρ b, ρ c] rfl (by decide) (by decide) (fun v hv => by
    simp only [List.mem_cons, List.not_mem_nil, or_false] at hv
    rcases hv with rfl | rfl | rfl
    · exact rowV33_size h1
    · exact rowV33_size h2
    · exact rowV33_size h3) w
  rw [show [ρ a, ρ b, ρ c].flatMap cellsOf = cellsOf (ρ a) ++ (cellsOf (ρ b) ++ cellsOf (ρ c)) by simp] at hr
  unfold execOp
  simp only [List.map_toArray, List.map_cons, List.map_nil]
  rw [Sem.run_bind]
  rw [show (#[(0, ρ a), (1, ρ b), (2, ρ c)] : Array (Nat × Value)) = (([ρ a, ρ b, ρ c].zipIdx 0).map fun x => (x.2, x.1)).toArray from rfl, hr]
  rfl
theorem exSlRecd1 (h : rowV33 88 (ρ a) = true) : (execOp ρ ⟨dst, .buildSlice 60 1 #[(0, a)], ty, pos, after, g⟩).run Tryz.prog w = .ok (.value (.slice (some ⟨w.heap.size, 0, none⟩) 1 1)) (w.alloc (.cells (cellsOf (ρ a)).toArray 65)) := by
  have hr := run_slice_rows (s := 88) (n := 1) Tryz.underlying60 infoRecd33 (by decide) (by decide) [ρ a] rfl (by decide) (by decide) (fun v hv => by rw [List.mem_singleton] at hv; subst hv; exact rowV33_size h) w
  rw [show [ρ a].flatMap cellsOf = cellsOf (ρ a) by simp] at hr
  unfold execOp
  simp only [List.map_toArray, List.map_cons, List.map_nil]
  rw [Sem.run_bind]
  rw [show (#[(0, ρ a)] : Array (Nat × Value)) = (([ρ a].zipIdx 0).map fun x => (x.2, x.1)).toArray from rfl, hr]
  rfl
theorem exSlPacket1 (h : rowV33 3 (ρ a) = true) : (execOp ρ ⟨dst, .buildSlice 56 1 #[(0, a)], ty, pos, after, g⟩).run Tryz.prog w = .ok (.value (.slice (some ⟨w.heap.size, 0, none⟩) 1 1)) (w.alloc (.cells (cellsOf (ρ a)).toArray 40)) := by
  have hr := run_slice_rows (s := 3) (n := 1) Tryz.underlying56 infoPacket33 (by decide) (by decide) [ρ a] rfl (by decide) (by decide) (fun v hv => by rw [List.mem_singleton] at hv; subst hv; exact rowV33_size h) w
  rw [show [ρ a].flatMap cellsOf = cellsOf (ρ a) by simp] at hr
  unfold execOp
  simp only [List.map_toArray, List.map_cons, List.map_nil]
  rw [Sem.run_bind]
  rw [show (#[(0, ρ a)] : Array (Nat × Value)) = (([ρ a].zipIdx 0).map fun x => (x.2, x.1)).toArray from rfl, hr]
  rfl
end
/-- a row behind a row of the call's own -/
theorem RowS.appendAt {w : World} {B : Nat} {e t ty : TypeId} {sz by_ : Nat} {z : Array Value} {v : Value} {rows : List (List Value)} (hu : Tryz.prog.underlying t = some (.slice e)) (hi : (Tryz.prog.info? e).map (fun i => (i.zero, i.size, i.bytes)) = some (some (.agg z), sz, by_)) (hz : z.size = sz) (h0 : 0 < sz) (hby : by_ ≤ 4096) (h : RowS w B e sz v rows) (hB : B ≤ w.heap.size)
    {b : Nat} {news : List (List Value)} (hb : Blk w b e news.flatten) (hl : ∀ r ∈ news, r.length = sz) (h1 : ∀ r ∈ news, ∀ u ∈ r, u.oneCell' = true) (hn : rows.length + news.length ≤ 1000000000) {k : Nat} (hk : k = news.length) (c : Nat) :
    ∃ v' w', (Builtin.append_ #[t, t] ty #[v, .slice (some ⟨b, 0, none⟩) k c]).run Tryz.prog w = .ok v' w' ∧ (RowS w' B e sz v' (rows ++ news) ∧ w.grownBy w' v.ownBlock ∧ (v'.ownBlock = v.ownBlock ∨ v'.ownBlock = some w.heap.size)) := by
  subst hk
  obtain ⟨i0, hi0, hz0, hsize, hby0⟩ := info_parts hi
  have hfl := flat_len news hl
  obtain ⟨v', w', hrun, hown, hgrow, -, hat⟩ := run_append_own_at (P := Tryz.prog) (w := w) B t ty e i0 (.agg z) sz by_ hu hi0 hz0 hsize hby0 hz h0 v rows.length rows.flatten h.2 ⟨b, 0, none⟩ news.length c news.flatten hfl
    (fun j u hj => by rw [Addr.add_mid, Nat.zero_add, hb.cell]; exact hj) (fun u hu => by
      obtain ⟨r, hr, hu⟩ := List.mem_flatten.1 hu
      exact h1 r hr u hu) (by unfold maxLen; omega) (Nat.le_trans (Nat.mul_le_mul hn hby) (by omega)) hB
  refine ⟨v', w', hrun, ⟨fun q hq => ?_, ?_⟩, hgrow, hat⟩
  · rcases List.mem_append.1 hq with hq | hq
    · exact h.1 q hq
    · exact hl q hq
  · rw [List.length_append, List.flatten_append]
    exact hown
end Go.Proofs.YtfjflkmhhbhceaaGreatDoor


/-
  Layer 33, walks: what waits at a place is written ahead. No condition.
-/
namespace Go.Proofs.YtfjflkmhhbhceaaGreatDoor
open Go.RowKit
attribute [local go_sem ↓] Go.wp_at_zero Go.wp_at_succ
attribute [local go_sem] rowAt_ptr rowOf_drew rowOf_drewN rowOf_alloc_past rowOf_new
attribute [local go_sem ↓] st33Part st33Place st33Call st33Cred st33Packet st33Message st33Reply st33Ask ld33Part ld33Place ld33Call ld33Cred ld33Packet ld33Message ld33Reply ld33Ask

attribute [local go_sem] thereB_drew thereB_drewN thereB_new thereB_past putsW_drew putsW_new putsW_past rowOf_far rowOf_putsFar ptrAt blkAt offAt rowV33 allV33 oneV33

/-- what a client writes ahead -/
def aheadPart (z : Clnt) (n : Nat) : CPart := ⟨{ callZ with proc := 7, offset := (z.place n).at_, data := (z.place n).bytes, how := 2 }, n, 0, -1, 0, 0⟩
set_option maxRecDepth 20000 in
set_option maxHeartbeats 800000 in
theorem ahead33_any (F : Nat → Prop) (w : World) (g : Nat) (c : ClD) (z : Clnt) (l : List Recd) (hC : ClAt F w g c z l) (n : Nat) (hn : n < 4) :
    Calls Tryz.prog 81 #[.pointer (some ⟨g, 0, none⟩), .int .i64 n] w fun e w' => ∃ v, e = .returned v ∧ RowS w' w.heap.size 91 29 v ((c.ahead n).2.map CPart.vals) ∧ (∃ z', ClAt F w' g (c.ahead n).1 z' l) ∧ Touch (fun k => k = g) w w' := by
  obtain ⟨i0, hi, hz, hsize, hby⟩ := info_parts infoPart33
  have HI := Lib.hid (And.intro hi (And.intro hz hsize))
  clear hi hz hsize
  obtain ⟨q0, q1, q2, q3⟩ := place_cells z hn
  have hP : c.at_ n = z.place n := hC.is.at_ hn
  have c2 : w.cell? ⟨g, 3 + n * 4 + 2, none⟩ = some (.int .i64 (z.place n).at_) := (hC.blk.cell _).trans q2
  have c3 : w.cell? ⟨g, 3 + n * 4 + 3, none⟩ = some (.string (bs (z.place n).bytes)) := (hC.blk.cell _).trans q3
  have hn0 : (0 : Int) ≤ (n : Int) := by omega
  have hn1 : (n : Int) < 4 := by omega
  have hgl := hC.blk.lt
  clear q0 q1 q2 q3
  by_cases he : (z.place n).bytes = []
  · rw [he] at c3
    have HQ := Lib.hid (show c.ahead n = (c, []) from if_pos (by rw [hP]; exact he))
    go_enter Tryz.func81, Tryz.ntmps81
    go_wp2
    go_ret
    refine ⟨_, rfl, ?_, ?_, Touch.refl _ _⟩
    · rw [HQ.out]; exact RowS.none_
    · rw [HQ.out]; exact ⟨z, hC⟩
  · have hie : (z.place n).bytes.isEmpty = false := by simpa using he
    have HQ := Lib.hid (show c.ahead n = (c.put_ n { z.place n with at_ := 0, bytes := [] }, [aheadPart z n]) by
      have h1 : c.ahead n = (c.put_ n { c.at_ n with at_ := 0, bytes := [] }, [⟨{ callZ with proc := 7, offset := (c.at_ n).at_, data := (c.at_ n).bytes, how := 2 }, n, 0, -1, 0, 0⟩]) := if_neg (by rw [hP]; exact he)
      rw [h1, hP]
      rfl)
    have HC := Lib.hid hC
    have HP := Lib.hid hP
    have bN := (Blk.new w 91 (aheadPart z n).vals).drew
    have hBe : Below w.heap.size w (w.alloc (.cells (aheadPart z n).vals.toArray 91)).drew := ((Below.refl _ _).alloc (Nat.le_refl _) _).drew
    obtain ⟨w1, hw1⟩ : ∃ V, V = (w.alloc (.cells (aheadPart z n).vals.toArray 91)).drew := ⟨_, rfl⟩
    rw [← hw1] at bN hBe
    have HW := Lib.hid hw1
    clear hw1 hP
    go_enter Tryz.func81, Tryz.ntmps81
    go_wp2
    go_region
    change Exit.then _ _ _ _ (w.alloc (.cells (aheadPart z n).vals.toArray 91)).drew
    rw [← HW.out]
    have bg := hC.blk.stays hBe
    replace c2 := (hBe.cell (p := ⟨g, 3 + n * 4 + 2, none⟩) hgl).trans c2
    replace c3 := (hBe.cell (p := ⟨g, 3 + n * 4 + 3, none⟩) hgl).trans c3
    have hfr := bg.frozen
    have hrow := bN.row 0 29 (by rw [CPart.len]; omega)
    rw [List.drop_zero, show (aheadPart z n).vals.take 29 = (aheadPart z n).vals from rfl] at hrow
    have HBE := Lib.hid hBe
    have HBN := Lib.hid bN
    have HBG := Lib.hid bg
    have hne : w.heap.size ≠ g := by omega
    clear hBe bN bg hC HW he
    go_wp2_with (first
      | (refine wpList_buildSlice_one (by rfl) 89 91 (.tmp 34) (by rfl) (aheadPart z n).vals (by rfl) Tryz.underlying89 i0 _ HI.out.1 HI.out.2.1 rfl HI.out.2.2 (by rw [CPart.len]; omega) (by rw [CPart.len]; omega) ?_)
      | fail)
    go_ret
    have bw := ((HBG.out.set_ (3 + n * 4 + 2) (.int .i64 0)).set_ (3 + n * 4 + 3) (.string (bs []))).alloc (.cells (aheadPart z n).vals.toArray 91)
    rw [place_set_wait z hn] at bw
    have ht := (((Touch.of_below HBE.out (fun k => k = g)).setCell (p := ⟨g, 3 + n * 4 + 2, none⟩) (.inl rfl) (.int .i64 0)).setCell (p := ⟨g, 3 + n * 4 + 3, none⟩) (.inl rfl) (.string (bs []))).alloc (.cells (aheadPart z n).vals.toArray 91)
    obtain ⟨k1, k2, k2c, k3, k4, k5⟩ := setPlace_keeps z hn { z.place n with at_ := 0, bytes := [] }
    rw [HQ.out]
    refine ⟨_, rfl, ?_, ⟨_, HC.out.own ht bw (HC.out.is.setPlace hn _) k1 k2 k2c rfl k3 k4 k5 rfl⟩, ht⟩
    have := RowS.made ((w1.setCell ⟨g, 3 + n * 4 + 2, none⟩ (.int .i64 0)).setCell ⟨g, 3 + n * 4 + 3, none⟩ (.string (bs []))) (b := w1.heap.size) (B := w.heap.size) (sz := 29) (k := 1) 91 [(aheadPart z n).vals] (fun r hr => by rw [List.mem_singleton] at hr; subst hr; rfl) (by simp [World.setCell]) HBE.out.size (by simp) rfl
    rw [show [(aheadPart z n).vals].flatten = (aheadPart z n).vals by simp] at this
    exact this
end Go.Proofs.YtfjflkmhhbhceaaGreatDoor


/-
  Layer 33, walks: bytes wait at a place. Condition: what is asked lies within its bounds.
-/
namespace Go.Proofs.YtfjflkmhhbhceaaGreatDoor
open Go.RowKit
attribute [local go_sem ↓] Go.wp_at_zero Go.wp_at_succ
attribute [local go_sem] rowAt_ptr rowOf_drew rowOf_drewN rowOf_alloc_past rowOf_new
attribute [local go_sem ↓] st33Part st33Place st33Call ld33Part ld33Place ld33Call

attribute [local go_sem] thereB_drew thereB_drewN thereB_new thereB_past putsW_drew putsW_new putsW_past rowOf_far rowOf_putsFar ptrAt blkAt offAt rowV33 allV33 oneV33

theorem ahead_at {c : ClD} {z : Clnt} (h : ClZ c z) {n : Nat} (hn : n < 4) : ((c.ahead n).1.at_ n).handle = (c.at_ n).handle ∧ ((c.ahead n).1.at_ n).gen = (c.at_ n).gen := by
  unfold ClD.ahead
  split
  · exact ⟨rfl, rfl⟩
  · have h1 := (h.setPlace hn { c.at_ n with at_ := 0, bytes := [] }).at_ hn
    have h2 : (z.setPlace n { c.at_ n with at_ := 0, bytes := [] }).place n = { c.at_ n with at_ := 0, bytes := [] } := by
      rcases (show n = 0 ∨ n = 1 ∨ n = 2 ∨ n = 3 by omega) with rfl | rfl | rfl | rfl <;> rfl
    show ((c.put_ n { c.at_ n with at_ := 0, bytes := [] }).at_ n).handle = _ ∧ ((c.put_ n { c.at_ n with at_ := 0, bytes := [] }).at_ n).gen = _
    rw [h1, h2]
    exact ⟨rfl, rfl⟩
theorem late_end {F : Nat → Prop} {w w1 w2 : World} {g n : Nat} {c : ClD} {z z2 : Clnt} {l : List Recd} {x : Call} {v : Value} {k : Nat} (hC : ClAt F w2 g (c.ahead n).1 z2 l) (hB : Below w.heap.size w w1) (hT : Touch (fun k => k = g) (w1.drewN k) w2)
    (hR : RowS w2 (w1.drewN k).heap.size 91 29 v ((c.ahead n).2.map CPart.vals)) (hQ : c.late n x = ((c.ahead n).1.put_ n { z.place n with at_ := x.offset, bytes := x.data }, (c.ahead n).2)) (hP : c.at_ n = z.place n) (hn : n < 4) (hz : ClZ c z) (hg : g < w.heap.size) :
    ∃ u, Ending.returned v = .returned u ∧ RowS ((w2.drew.setCell ⟨g, 3 + n * 4 + 2, none⟩ (.int .i64 x.offset)).setCell ⟨g, 3 + n * 4 + 3, none⟩ (.string (bs x.data))) w.heap.size 91 29 u ((c.late n x).2.map CPart.vals) ∧
      (∃ z', ClAt F ((w2.drew.setCell ⟨g, 3 + n * 4 + 2, none⟩ (.int .i64 x.offset)).setCell ⟨g, 3 + n * 4 + 3, none⟩ (.string (bs x.data))) g (c.late n x).1 z' l) ∧ Touch (fun k => k = g) w ((w2.drew.setCell ⟨g, 3 + n * 4 + 2, none⟩ (.int .i64 x.offset)).setCell ⟨g, 3 + n * 4 + 3, none⟩ (.string (bs x.data))) := by
  have bw := ((hC.blk.drew).set_ (3 + n * 4 + 2) (.int .i64 x.offset)).set_ (3 + n * 4 + 3) (.string (bs x.data))
  rw [place_set_wait z2 hn] at bw
  have ht1 := (((Touch.refl (fun k => k = g) w2).drew).setCell (p := ⟨g, 3 + n * 4 + 2, none⟩) (.inl rfl) (.int .i64 x.offset)).setCell (p := ⟨g, 3 + n * 4 + 3, none⟩) (.inl rfl) (.string (bs x.data))
  obtain ⟨k1, k2, k2c, k3, k4, k5⟩ := setPlace_keeps z2 hn { z2.place n with at_ := x.offset, bytes := x.data }
  obtain ⟨a1, a2⟩ := ahead_at hz hn
  have e2 : ({ z.place n with at_ := x.offset, bytes := x.data } : CPlace) = { z2.place n with at_ := x.offset, bytes := x.data } := by
    rw [hC.is.at_ hn, hP] at a1 a2
    show (⟨(z.place n).handle, (z.place n).gen, x.offset, x.data⟩ : CPlace) = ⟨(z2.place n).handle, (z2.place n).gen, x.offset, x.data⟩
    rw [a1, a2]
  have hs : w.heap.size ≤ w1.heap.size := hB.size
  rw [hQ, e2]
  refine ⟨_, rfl, (hR.touch ht1 fun j hk e => ?_).base hs, ⟨_, hC.own ht1 bw (hC.is.setPlace hn _) k1 k2 k2c rfl k3 k4 k5 rfl⟩, ?_⟩
  · have := (hR.lt j hk).1
    have hs' : (w1.drewN k).heap.size = w1.heap.size := rfl
    omega
  · have h0 : Touch (fun k => k = g) w w2 := (Touch.of_below (bdN hB k) _).then_ hT
    exact h0.then_ ht1
set_option maxRecDepth 20000 in
set_option maxHeartbeats 1600000 in
theorem late33_any (F : Nat → Prop) (w : World) (g : Nat) (c : ClD) (z : Clnt) (l : List Recd) (hC : ClAt F w g c z l) (n : Nat) (hn : n < 4) (x : Call) (hG : PlaceG (z.place n)) (hx : 0 ≤ x.offset ∧ x.offset ≤ 9223372036854775807) (hd : x.data.length ≤ 256) :
    Calls Tryz.prog 82 #[.pointer (some ⟨g, 0, none⟩), .int .i64 n, .agg x.vals.toArray] w fun e w' => ∃ v, e = .returned v ∧ RowS w' w.heap.size 91 29 v ((c.late n x).2.map CPart.vals) ∧ (∃ z', ClAt F w' g (c.late n x).1 z' l) ∧ Touch (fun k => k = g) w w' := by
  have hgl := hC.blk.lt
  have hne : w.heap.size ≠ g := by omega
  have bX := Blk.new w 36 x.vals
  have hB : Below w.heap.size w (w.alloc (.cells x.vals.toArray 36)) := (Below.refl _ _).alloc (Nat.le_refl _) _
  have hC1 := hC.below hB
  obtain ⟨w1, hw1⟩ : ∃ V, V = w.alloc (.cells x.vals.toArray 36) := ⟨_, rfl⟩
  rw [← hw1] at bX hB hC1
  have HW := Lib.hid hw1
  clear hw1
  obtain ⟨q0, q1, q2, q3⟩ := place_cells z hn
  have hP : c.at_ n = z.place n := hC.is.at_ hn
  have c2 : w1.cell? ⟨g, 3 + n * 4 + 2, none⟩ = some (.int .i64 (z.place n).at_) := (hC1.blk.cell _).trans q2
  have c3 : w1.cell? ⟨g, 3 + n * 4 + 3, none⟩ = some (.string (bs (z.place n).bytes)) := (hC1.blk.cell _).trans q3
  have x5 : w1.cell? ⟨w.heap.size, 5, none⟩ = some (.int .i64 x.offset) := bX.cell 5
  have x8 : w1.cell? ⟨w.heap.size, 8, none⟩ = some (.string (bs x.data)) := bX.cell 8
  have hfr := hC1.blk.frozen
  have hn0 : (0 : Int) ≤ (n : Int) := by omega
  have hn1 : (n : Int) < 4 := by omega
  have hlt1 : w.heap.size < w1.heap.size := bX.lt
  clear q0 q1 q2 q3
  have HC := Lib.hid hC1
  have HP := Lib.hid hP
  have HX := Lib.hid bX
  have HB := Lib.hid hB
  have HZ := Lib.hid hC.is
  clear hP
  by_cases hxd : x.data = []
  · have HQ := Lib.hid (show c.late n x = (c, []) from if_pos hxd)
    rw [hxd] at x8
    clear hC hC1 bX hB
    go_enter Tryz.func82, Tryz.ntmps82
    go_upto_region 1 with fail
    change Code.wp _ _ _ _ (w.alloc (.cells x.vals.toArray 36))
    rw [← HW.out]
    go_wp2
    go_ret
    rw [HQ.out]
    exact ⟨_, rfl, RowS.none_, ⟨z, HC.out⟩, Touch.of_below HB.out _⟩
  have hxe : x.data.isEmpty = false := by simpa using hxd
  by_cases hj : (z.place n).bytes ≠ [] ∧ x.offset - (z.place n).at_ = (z.place n).bytes.length ∧ (z.place n).bytes.length + x.data.length ≤ 256
  · have HQ := Lib.hid (show c.late n x = (c.put_ n { z.place n with bytes := (z.place n).bytes ++ x.data }, []) by
      have h1 : c.late n x = (c.put_ n { c.at_ n with bytes := (c.at_ n).bytes ++ x.data }, []) := (if_neg hxd).trans (if_pos (by rw [HP.out]; exact hj))
      rw [h1, HP.out])
    have hie : (z.place n).bytes.isEmpty = false := by simpa using hj.1
    have hsub : IntKind.i64.wrap (x.offset - (z.place n).at_) = ((z.place n).bytes.length : Int) := by rw [IntWalk.i64_in _ (by omega)]; exact hj.2.1
    have hadd : IntKind.i64.wrap (((z.place n).bytes.length : Int) + (x.data.length : Int)) = (((z.place n).bytes.length + x.data.length : Nat) : Int) := by rw [IntWalk.i64_in _ (by omega)]; omega
    have hle : ((z.place n).bytes.length : Int) + (x.data.length : Int) ≤ 256 := by omega
    have HJ := Lib.hid hj
    clear hC hC1 bX hB hj
    go_enter Tryz.func82, Tryz.ntmps82
    go_upto_region 1 with fail
    change Code.wp _ _ _ _ (w.alloc (.cells x.vals.toArray 36))
    rw [← HW.out]
    go_wp2
    go_quiet (fail)
    go_wp2
    go_region
    go_wp2
    go_ret
    have bw := (((HC.out.blk).drewN (nq + 1)).set_ (3 + n * 4 + 3) (.string (bs ((z.place n).bytes ++ x.data))))
    rw [place_set_bytes z hn] at bw
    have ht := ((Touch.of_below (bdN HB.out (nq + 1)) (fun k => k = g))).setCell (p := ⟨g, 3 + n * 4 + 3, none⟩) (.inl rfl) (.string (bs ((z.place n).bytes ++ x.data)))
    have ht1 := ((Touch.refl (fun k => k = g) w1).drewN (nq + 1)).setCell (p := ⟨g, 3 + n * 4 + 3, none⟩) (.inl rfl) (.string (bs ((z.place n).bytes ++ x.data)))
    obtain ⟨k1, k2, k2c, k3, k4, k5⟩ := setPlace_keeps z hn { z.place n with bytes := (z.place n).bytes ++ x.data }
    rw [HQ.out, bs_append]
    exact ⟨_, rfl, RowS.none_, ⟨_, HC.out.own ht1 bw (HC.out.is.setPlace hn _) k1 k2 k2c rfl k3 k4 k5 rfl⟩, ht⟩
  have HQ := Lib.hid (show c.late n x = ((c.ahead n).1.put_ n { z.place n with at_ := x.offset, bytes := x.data }, (c.ahead n).2) by
    have h1 : c.late n x = ((c.ahead n).1.put_ n { c.at_ n with at_ := x.offset, bytes := x.data }, (c.ahead n).2) := (if_neg hxd).trans (if_neg (by rw [HP.out]; exact hj))
    rw [h1, HP.out])
  have HG := Lib.hid hG
  have HXO := Lib.hid hx
  have hgd : (z.place n).bytes.isEmpty = true ∨ (z.place n).bytes.isEmpty = false ∧ ((IntKind.i64.wrap (x.offset - (z.place n).at_) == ((z.place n).bytes.length : Int)) = false ∨ (IntKind.i64.wrap (x.offset - (z.place n).at_) == ((z.place n).bytes.length : Int)) = true ∧ ¬ ((z.place n).bytes.length : Int) + (x.data.length : Int) ≤ 256) := by
    have hat := hG.at_
    have hw : IntKind.i64.wrap (x.offset - (z.place n).at_) = x.offset - (z.place n).at_ := IntWalk.i64_in _ (by omega)
    rw [hw]
    by_cases h1 : (z.place n).bytes = []
    · exact .inl (by rw [h1]; rfl)
    · refine .inr ⟨by simpa using h1, ?_⟩
      by_cases h2 : x.offset - (z.place n).at_ = ((z.place n).bytes.length : Int)
      · refine .inr ⟨by simpa using h2, fun h3 => hj ⟨h1, h2, by omega⟩⟩
      · exact .inl (by simpa using h2)
  have hlb := hG.bytes
  have hadd : IntKind.i64.wrap (((z.place n).bytes.length : Int) + (x.data.length : Int)) = ((z.place n).bytes.length : Int) + (x.data.length : Int) := IntWalk.i64_in _ (by omega)
  have KA := Lib.hid (fun (W : World) (h : Below w1.heap.size w1 W) => ahead33_any F W g c z l (HC.out.below h) n hn)
  clear hC hC1 bX hB hj hx hG
  rcases hgd with h1 | ⟨h1, h2 | ⟨h2, h3⟩⟩
  · have hb0 := List.isEmpty_iff.1 h1
    rw [hb0] at c3
    have c3 : w1.cell? ⟨g, 3 + n * 4 + 3, none⟩ = some (.string { data := #[] }) := c3
    clear h1 hb0 hadd hlb hxe
    go_enter Tryz.func82, Tryz.ntmps82
    go_upto_region 1 with fail
    change Code.wp _ _ _ _ (w.alloc (.cells x.vals.toArray 36))
    rw [← HW.out]
    have hxe : x.data.isEmpty = false := by simpa using hxd
    clear hxd
    go_wp2
    go_quiet (fail)
    go_wp2_with fail
    refine (KA.out _ (bdN (Below.refl _ _) _)).mono ?_
    rintro e w2 ⟨v, rfl, hrow, ⟨z2, hC2⟩, ht⟩
    have x5' : w2.cell? ⟨w.heap.size, 5, none⟩ = some (.int .i64 x.offset) := (ht.cell (p := ⟨w.heap.size, 5, none⟩) hlt1 hne).trans x5
    have x8' : w2.cell? ⟨w.heap.size, 8, none⟩ = some (.string (bs x.data)) := (ht.cell (p := ⟨w.heap.size, 8, none⟩) hlt1 hne).trans x8
    obtain ⟨r0, r1, r2, r3⟩ := place_cells z2 hn
    have d2 : w2.cell? ⟨g, 3 + n * 4 + 2, none⟩ = some (.int .i64 (z2.place n).at_) := (hC2.blk.cell _).trans r2
    have d3 : w2.cell? ⟨g, 3 + n * 4 + 3, none⟩ = some (.string (bs (z2.place n).bytes)) := (hC2.blk.cell _).trans r3
    have hfr2 := hC2.blk.frozen
    have HC2 := Lib.hid hC2
    have HR := Lib.hid hrow
    have HT := Lib.hid ht
    clear c2 c3 x5 x8 hfr r0 r1 r2 r3 hC2 hrow ht
    go_wp2
    go_region
    go_wp2
    go_ret
    exact late_end HC2.out HB.out HT.out HR.out HQ.out HP.out hn HZ.out hgl
  · obtain ⟨d, hdd⟩ : ∃ d, d = IntKind.i64.wrap (x.offset - (z.place n).at_) := ⟨_, rfl⟩
    rw [← hdd] at h2
    have hdw := hdd.symm
    have h2n : decide (d = ((z.place n).bytes.length : Int)) = false := by simpa using h2
    have h2m : ¬ d = ((z.place n).bytes.length : Int) := by simpa using h2n
    have h2k : (d == ((z.place n).bytes.length : Int)) = false := h2
    clear hdd h2 hadd hxd hlb
    go_enter Tryz.func82, Tryz.ntmps82
    go_upto_region 1 with fail
    change Code.wp _ _ _ _ (w.alloc (.cells x.vals.toArray 36))
    rw [← HW.out]
    go_wp2
    go_quiet (fail)
    clear hdw h2n h2m h2k
    go_wp2_with fail
    refine (KA.out _ (bdN (Below.refl _ _) _)).mono ?_
    rintro e w2 ⟨v, rfl, hrow, ⟨z2, hC2⟩, ht⟩
    have x5' : w2.cell? ⟨w.heap.size, 5, none⟩ = some (.int .i64 x.offset) := (ht.cell (p := ⟨w.heap.size, 5, none⟩) hlt1 hne).trans x5
    have x8' : w2.cell? ⟨w.heap.size, 8, none⟩ = some (.string (bs x.data)) := (ht.cell (p := ⟨w.heap.size, 8, none⟩) hlt1 hne).trans x8
    obtain ⟨r0, r1, r2, r3⟩ := place_cells z2 hn
    have d2 : w2.cell? ⟨g, 3 + n * 4 + 2, none⟩ = some (.int .i64 (z2.place n).at_) := (hC2.blk.cell _).trans r2
    have d3 : w2.cell? ⟨g, 3 + n * 4 + 3, none⟩ = some (.string (bs (z2.place n).bytes)) := (hC2.blk.cell _).trans r3
    have hfr2 := hC2.blk.frozen
    have HC2 := Lib.hid hC2
    have HR := Lib.hid hrow
    have HT := Lib.hid ht
    clear c2 c3 x5 x8 hfr r0 r1 r2 r3 hC2 hrow ht
    go_wp2
    go_region
    go_wp2
    go_ret
    exact late_end HC2.out HB.out HT.out HR.out HQ.out HP.out hn HZ.out hgl
  · have h3d : decide (((z.place n).bytes.length : Int) + (x.data.length : Int) ≤ 256) = false := by simpa using h3
    go_enter Tryz.func82, Tryz.ntmps82
    go_upto_region 1 with fail
    change Code.wp _ _ _ _ (w.alloc (.cells x.vals.toArray 36))
    rw [← HW.out]
    go_wp2
    go_quiet (fail)
    clear h3d h3 h2 h1 hadd
    go_wp2_with fail
    refine (KA.out _ (bdN (Below.refl _ _) _)).mono ?_
    rintro e w2 ⟨v, rfl, hrow, ⟨z2, hC2⟩, ht⟩
    have x5' : w2.cell? ⟨w.heap.size, 5, none⟩ = some (.int .i64 x.offset) := (ht.cell (p := ⟨w.heap.size, 5, none⟩) hlt1 hne).trans x5
    have x8' : w2.cell? ⟨w.heap.size, 8, none⟩ = some (.string (bs x.data)) := (ht.cell (p := ⟨w.heap.size, 8, none⟩) hlt1 hne).trans x8
    obtain ⟨r0, r1, r2, r3⟩ := place_cells z2 hn
    have d2 : w2.cell? ⟨g, 3 + n * 4 + 2, none⟩ = some (.int .i64 (z2.place n).at_) := (hC2.blk.cell _).trans r2
    have d3 : w2.cell? ⟨g, 3 + n * 4 + 3, none⟩ = some (.string (bs (z2.place n).bytes)) := (hC2.blk.cell _).trans r3
    have hfr2 := hC2.blk.frozen
    have HC2 := Lib.hid hC2
    have HR := Lib.hid hrow
    have HT := Lib.hid ht
    clear c2 c3 x5 x8 hfr r0 r1 r2 r3 hC2 hrow ht
    go_wp2
    go_region
    go_wp2
    go_ret
    exact late_end HC2.out HB.out HT.out HR.out HQ.out HP.out hn HZ.out hgl
end Go.Proofs.YtfjflkmhhbhceaaGreatDoor


/-
  A record is built out of a cred, a number and a call, as a rule of the walk's own simp. No condition.
-/
namespace Go.Proofs.YtfjflkmhhbhceaaGreatDoor
open Go.RowKit
def aggN33 (n : Nat) : Value → Bool
  | .agg cs => decide (cs.toList.length = n)
  | _ => false
def intV33 : Value → Bool
  | .int .i64 _ => true
  | _ => false
def zerosR33 : List Value := [.int .i64 0, .string ⟨#[]⟩, .bool false, .int .i64 0, .int .i64 0, .int .i64 0, .int .i64 0, .int .i64 0, .int .i64 0, .int .i64 0, .int .i64 0, .int .i64 0, .int .i64 0, .bool false, .int .i64 0, .int .i64 0, .int .i64 0, .int .i64 0, .int .i64 0, .int .i64 0, .int .i64 0, .int .i64 0, .int .i64 0, .int .i64 0, .bool false, .int .i64 0, .bool false, .int .i64 0, .int .i64 0, .int .i64 0, .int .i64 0, .int .i64 0, .int .i64 0, .int .i64 0, .int .i64 0, .int .i64 0, .int .i64 0, .bool false, .int .i64 0, .bool false, .int .i64 0, .int .i64 0, .int .i64 0, .int .i64 0, .int .i64 0, .int .i64 0, .int .i64 0, .int .i64 0, .int .i64 0, .int .i64 0, .int .i64 0, .int .i64 0, .bool false, .string ⟨#[]⟩, .int .i64 0, .int .i64 0, .slice none 0 0, .slice none 0 0]
theorem runRecd33 (a0 a1 a2 a3 c0 c1 c2 c3 c4 c5 c6 c7 c8 c9 c10 c11 c12 c13 c14 c15 c16 c17 c18 c19 c20 c21 c22 c23 : Value) (s : Int) (w : World) : (Instr.build 65 #[(0, .agg #[a0, a1, a2, a3]), (1, .int .i64 s), (3, .agg #[c0, c1, c2, c3, c4, c5, c6, c7, c8, c9, c10, c11, c12, c13, c14, c15, c16, c17, c18, c19, c20, c21, c22, c23])]).run Tryz.prog w = .ok (.agg ([a0, a1, a2, a3] ++ ([Value.int .i64 s, Value.int .i64 0] ++ ([c0, c1, c2, c3, c4, c5, c6, c7, c8, c9, c10, c11, c12, c13, c14, c15, c16, c17, c18, c19, c20, c21, c22, c23] ++ zerosR33))).toArray) w := by kernel_rfl
theorem list4 {α : Type} : ∀ (l : List α), l.length = 4 → ∃ a0 a1 a2 a3, l = [a0, a1, a2, a3]
  | [a0, a1, a2, a3], _ => ⟨a0, a1, a2, a3, rfl⟩
theorem list24 {α : Type} : ∀ (l : List α), l.length = 24 → ∃ c0 c1 c2 c3 c4 c5 c6 c7 c8 c9 c10 c11 c12 c13 c14 c15 c16 c17 c18 c19 c20 c21 c22 c23, l = [c0, c1, c2, c3, c4, c5, c6, c7, c8, c9, c10, c11, c12, c13, c14, c15, c16, c17, c18, c19, c20, c21, c22, c23]
  | [c0, c1, c2, c3, c4, c5, c6, c7, c8, c9, c10, c11, c12, c13, c14, c15, c16, c17, c18, c19, c20, c21, c22, c23], _ => ⟨c0, c1, c2, c3, c4, c5, c6, c7, c8, c9, c10, c11, c12, c13, c14, c15, c16, c17, c18, c19, c20, c21, c22, c23, rfl⟩
theorem exRecd33 {ρ : Operand → Value} {w : World} {dst : Option Tmp} {ty : TypeId} {pos : String} {after : Array Edge} {g : Option (Nat × Bool)} {a b c : Operand} (h1 : aggN33 4 (ρ a) = true) (h2 : intV33 (ρ b) = true) (h3 : aggN33 24 (ρ c) = true) :
    (execOp ρ ⟨dst, .build 65 #[(0, a), (1, b), (3, c)], ty, pos, after, g⟩).run Tryz.prog w = .ok (.value (.agg (cellsOf (ρ a) ++ ([ρ b, Value.int .i64 0] ++ (cellsOf (ρ c) ++ zerosR33))).toArray)) w := by
  unfold execOp
  simp only [List.map_toArray, List.map_cons, List.map_nil]
  generalize ρ a = A at *
  generalize ρ b = B at *
  generalize ρ c = C at *
  unfold aggN33 at h1 h3
  unfold intV33 at h2
  split at h1
  · split at h2
    · split at h3
      · rename_i _ cs _ n _ ds
        simp only [decide_eq_true_eq] at h1 h3
        obtain ⟨l, rfl⟩ : ∃ l : List Value, cs = l.toArray := ⟨cs.toList, by simp⟩
        obtain ⟨m, rfl⟩ : ∃ l : List Value, ds = l.toArray := ⟨ds.toList, by simp⟩
        obtain ⟨a0, a1, a2, a3, rfl⟩ := list4 l h1
        obtain ⟨c0, c1, c2, c3, c4, c5, c6, c7, c8, c9, c10, c11, c12, c13, c14, c15, c16, c17, c18, c19, c20, c21, c22, c23, rfl⟩ := list24 m h3
        rw [Sem.run_bind, runRecd33]
        rfl
      · cases h3
    · cases h2
  · cases h1
end Go.Proofs.YtfjflkmhhbhceaaGreatDoor
