/-
  Layer 8, walks: results without lists (written by wip/tools/genbare.py). Condition: results at a block of their own.
-/
import Derived.Test.YtfjflkmhhbhceaaGreatDoorW02
import Derived.Test.YtfjflkmhhbhceaaGreatDoorW07
import Derived.Test.YtfjflkmhhbhceaaGreatDoorW11
import Derived.StillTailTactics
import Derived.Test.YtfjflkmhhbhceaaGreatDoorW06
import Derived.Test.YtfjflkmhhbhceaaGreatDoorW03
import Derived.Deep.WholeRow
namespace Go.Proofs.YtfjflkmhhbhceaaGreatDoor
open Go.RowKit
attribute [local go_sem ↓] Go.wp_at_zero Go.wp_at_succ
attribute [local go_sem] rowAt_ptr rowOf_drew rowOf_drewN rowOf_alloc_past rowOf_new
attribute [local go_sem ↓] ldPost ldWcc

attribute [local go_sem] Reply.at0 Reply.lat0 Reply.at1 Reply.lat1 Reply.at2 Reply.lat2 Reply.at3 Reply.lat3 Reply.at4 Reply.lat4 Reply.at5 Reply.lat5 Reply.at6 Reply.lat6 Reply.at7 Reply.lat7 Reply.at8 Reply.lat8 Reply.at9 Reply.lat9 Reply.at10 Reply.lat10 Reply.at11 Reply.lat11 Reply.at12 Reply.lat12 Reply.at13 Reply.lat13 Reply.at14 Reply.lat14 Reply.at15 Reply.lat15 Reply.at16 Reply.lat16 Reply.at17 Reply.lat17 Reply.at18 Reply.lat18 Reply.at19 Reply.lat19 Reply.at20 Reply.lat20 Reply.at21 Reply.lat21 Reply.at22 Reply.lat22 Reply.at23 Reply.lat23 Reply.at24 Reply.lat24 Reply.at25 Reply.lat25 Reply.at26 Reply.lat26 Reply.at27 Reply.lat27 Reply.at28 Reply.lat28 Reply.at29 Reply.lat29 Reply.at30 Reply.lat30 Reply.at31 Reply.lat31 Reply.at32 Reply.lat32 Reply.at33 Reply.lat33 Reply.at34 Reply.lat34 Reply.at35 Reply.lat35 Reply.at36 Reply.lat36 Reply.at37 Reply.lat37 Reply.at38 Reply.lat38 Reply.at39 Reply.lat39 Reply.at40 Reply.lat40 Reply.at41 Reply.lat41 Reply.at42 Reply.lat42 Reply.at43 Reply.lat43 Reply.at44 Reply.lat44 Reply.at45 Reply.lat45 Reply.at46 Reply.lat46 Reply.at47 Reply.lat47 Reply.at48 Reply.lat48 Reply.at49 Reply.lat49 Reply.at50 Reply.lat50 Reply.at51 Reply.lat51 Reply.at52 Reply.lat52 Reply.at53 Reply.lat53 Reply.at54 Reply.lat54 Reply.at55 Reply.lat55 Reply.at56 Reply.lat56 Reply.at57 Reply.lat57 Reply.sub0_58 Reply.lsub0_58 Reply.sub2_11 Reply.lsub2_11 Reply.sub3_10 Reply.lsub3_10 Reply.sub13_11 Reply.lsub13_11 Reply.sub14_10 Reply.lsub14_10 Reply.sub24_13 Reply.lsub24_13 Reply.sub24_2 Reply.lsub24_2 Reply.sub26_11 Reply.lsub26_11 Reply.sub27_10 Reply.lsub27_10 Reply.sub37_13 Reply.lsub37_13 Reply.sub37_2 Reply.lsub37_2 Reply.sub39_11 Reply.lsub39_11 Reply.sub40_10 Reply.lsub40_10 Reply.len Post.at0 Post.lat0 Post.at1 Post.lat1 Post.at2 Post.lat2 Post.at3 Post.lat3 Post.at4 Post.lat4 Post.at5 Post.lat5 Post.at6 Post.lat6 Post.at7 Post.lat7 Post.at8 Post.lat8 Post.at9 Post.lat9 Post.at10 Post.lat10 Post.sub0_11 Post.lsub0_11 Post.sub1_10 Post.lsub1_10 Post.len Wcc.at0 Wcc.lat0 Wcc.at1 Wcc.lat1 Wcc.at2 Wcc.lat2 Wcc.at3 Wcc.lat3 Wcc.at4 Wcc.lat4 Wcc.at5 Wcc.lat5 Wcc.at6 Wcc.lat6 Wcc.at7 Wcc.lat7 Wcc.at8 Wcc.lat8 Wcc.at9 Wcc.lat9 Wcc.at10 Wcc.lat10 Wcc.at11 Wcc.lat11 Wcc.at12 Wcc.lat12 Wcc.sub0_13 Wcc.lsub0_13 Wcc.sub0_2 Wcc.lsub0_2 Wcc.sub2_11 Wcc.lsub2_11 Wcc.sub3_10 Wcc.lsub3_10 Wcc.len

def Reply.bare (r : Reply) : Flds := ⟨r.status, r.fh, r.data, r.obj, r.dir, r.wcc, r.wcc2, r.access, r.count, r.stable, r.verf, r.eof⟩
def fldsZ : Flds := (Flds.mk 0 [] [] ⟨false, ⟨0, 0, 0, 0, 0, 0, 0, 0, 0, 0⟩⟩ ⟨false, ⟨0, 0, 0, 0, 0, 0, 0, 0, 0, 0⟩⟩ ⟨⟨false, 0⟩, ⟨false, ⟨0, 0, 0, 0, 0, 0, 0, 0, 0, 0⟩⟩⟩ ⟨⟨false, 0⟩, ⟨false, ⟨0, 0, 0, 0, 0, 0, 0, 0, 0, 0⟩⟩⟩ 0 0 0 0 false)
end Go.Proofs.YtfjflkmhhbhceaaGreatDoor

/-
  Layer 8, walks: are results the same (with what is told of their lists); what must come of fixed calls; the law ReplyFields. No condition.
-/
namespace Go.Proofs.YtfjflkmhhbhceaaGreatDoor
open Go.RowKit
attribute [local go_sem ↓] Go.wp_at_zero Go.wp_at_succ
attribute [local go_sem] rowAt_ptr rowOf_drew rowOf_drewN rowOf_alloc_past rowOf_new
theorem ldReply {ρ : Operand → Value} {w : World} {dst : Option Tmp} {ty : TypeId} {pos : String} {after : Array Edge} {g : Option (Nat × Bool)} {x : Operand} (h : (rowAt w 58 (ρ x)).isSome = true) :
    (execOp ρ ⟨dst, .load 51 x, ty, pos, after, g⟩).run Tryz.prog w = .ok (.value (.agg ((rowAt w 58 (ρ x)).getD #[]))) w := ex_load 51 58 Tryz.underlying51 rfl (by kernel_rfl) h
attribute [local go_sem ↓] ldReply

attribute [local go_sem] Reply.at0 Reply.lat0 Reply.at1 Reply.lat1 Reply.at2 Reply.lat2 Reply.at3 Reply.lat3 Reply.at4 Reply.lat4 Reply.at5 Reply.lat5 Reply.at6 Reply.lat6 Reply.at7 Reply.lat7 Reply.at8 Reply.lat8 Reply.at9 Reply.lat9 Reply.at10 Reply.lat10 Reply.at11 Reply.lat11 Reply.at12 Reply.lat12 Reply.at13 Reply.lat13 Reply.at14 Reply.lat14 Reply.at15 Reply.lat15 Reply.at16 Reply.lat16 Reply.at17 Reply.lat17 Reply.at18 Reply.lat18 Reply.at19 Reply.lat19 Reply.at20 Reply.lat20 Reply.at21 Reply.lat21 Reply.at22 Reply.lat22 Reply.at23 Reply.lat23 Reply.at24 Reply.lat24 Reply.at25 Reply.lat25 Reply.at26 Reply.lat26 Reply.at27 Reply.lat27 Reply.at28 Reply.lat28 Reply.at29 Reply.lat29 Reply.at30 Reply.lat30 Reply.at31 Reply.lat31 Reply.at32 Reply.lat32 Reply.at33 Reply.lat33 Reply.at34 Reply.lat34 Reply.at35 Reply.lat35 Reply.at36 Reply.lat36 Reply.at37 Reply.lat37 Reply.at38 Reply.lat38 Reply.at39 Reply.lat39 Reply.at40 Reply.lat40 Reply.at41 Reply.lat41 Reply.at42 Reply.lat42 Reply.at43 Reply.lat43 Reply.at44 Reply.lat44 Reply.at45 Reply.lat45 Reply.at46 Reply.lat46 Reply.at47 Reply.lat47 Reply.at48 Reply.lat48 Reply.at49 Reply.lat49 Reply.at50 Reply.lat50 Reply.at51 Reply.lat51 Reply.at52 Reply.lat52 Reply.at53 Reply.lat53 Reply.at54 Reply.lat54 Reply.at55 Reply.lat55 Reply.at56 Reply.lat56 Reply.at57 Reply.lat57 Reply.sub0_58 Reply.lsub0_58 Reply.sub2_11 Reply.lsub2_11 Reply.sub3_10 Reply.lsub3_10 Reply.sub13_11 Reply.lsub13_11 Reply.sub14_10 Reply.lsub14_10 Reply.sub24_13 Reply.lsub24_13 Reply.sub24_2 Reply.lsub24_2 Reply.sub26_11 Reply.lsub26_11 Reply.sub27_10 Reply.lsub27_10 Reply.sub37_13 Reply.lsub37_13 Reply.sub37_2 Reply.lsub37_2 Reply.sub39_11 Reply.lsub39_11 Reply.sub40_10 Reply.lsub40_10 Reply.len

def postZ8 : Post := ⟨false, ⟨0, 0, 0, 0, 0, 0, 0, 0, 0, 0⟩⟩
def replyZ : Reply := ⟨0, [], postZ8, postZ8, ⟨⟨false, 0⟩, postZ8⟩, ⟨⟨false, 0⟩, postZ8⟩, 0, 0, false, [], 0, 0, none, 0, 0, none, 0, 0⟩
def lfPost8 : List Leaf := .b :: List.replicate 10 (.i .i64)
theorem Attr.inj8 {x y : Attr} (h : x.vals = y.vals) : x = y := by
  obtain ⟨_, _, _, _, _, _, _, _, _, _⟩ := x
  obtain ⟨_, _, _, _, _, _, _, _, _, _⟩ := y
  simp only [Attr.vals, List.cons.injEq, Value.int.injEq, true_and, and_true] at h
  obtain ⟨h0, h1, h2, h3, h4, h5, h6, h7, h8, h9⟩ := h
  subst_vars
  rfl
theorem there8_any (p : Int) (w : World) (h : 0 ≤ p ∧ p ≤ 21) : Calls Tryz.prog 98 #[.int .i64 p] w fun e w' => e = .returned (.bool true) ∧ w = w' := by
  obtain ⟨h1, h2⟩ := h
  go_enter Tryz.func98, Tryz.ntmps98
  go_wp2
  all_goals (go_ret; go_light; exact ⟨ret_bool (by grind), rfl⟩)
end Go.Proofs.YtfjflkmhhbhceaaGreatDoor


/-
  Layer 8 in plain words: what bytes are results. No condition.
-/
namespace Go.Proofs.YtfjflkmhhbhceaaGreatDoor

/-- results as data: the fields, the entries, the numbers -/
structure RepD where
  f : Flds
  es : List Entry
  us : List Int
/-- k numbers, one behind the other -/
def numsK (r : Rs) : Nat → List Int × Rs
  | 0 => ([], r)
  | k + 1 => ((numsK r k).1 ++ [((rU64 (numsK r k).2).1 : Int)], (rU64 (numsK r k).2).2)
/-- what an entry is read as, ahead of its attributes -/
def oneA (r : Rs) : Entry × Rs :=
  ({ gen := (rU64 r).1, name := (rOpaque 255 (rU64 r).2).1, cookie := (rU64 (rOpaque 255 (rU64 r).2).2).1, attr := postZ8, fh := [] }, (rU64 (rOpaque 255 (rU64 r).2).2).2)
/-- an entry, with all that it has, or not -/
def oneE (whole : Bool) (r : Rs) : Entry × Rs :=
  if whole then ({ (oneA r).1 with attr := (gotR Post.ok postZ (rPost (oneA r).2)).1, fh := (rOpaque 64 (rPost (oneA r).2).2).1 }, (rOpaque 64 (rPost (oneA r).2).2).2) else oneA r
def oneOk (whole : Bool) (r : Rs) : Bool := (!whole || (gotR Post.ok postZ (rPost (oneA r).2)).2 == 0) && ((oneE whole r).2.e == 0)
/-- k entries, one behind the other -/
def entsK (whole : Bool) (r : Rs) : Nat → List Entry × Rs
  | 0 => ([], r)
  | k + 1 => ((entsK whole r k).1 ++ [(oneE whole (entsK whole r k).2).1], (oneE whole (entsK whole r k).2).2)
/-- the field of a letter is taken -/
def pTk (c : Nat) (d : RepD) (r : Rs) : RepD × Rs :=
  if c = 104 then ({ d with f := { d.f with fh := (rOpaque 64 r).1 } }, (rOpaque 64 r).2)
  else if c = 97 then ({ d with f := { d.f with obj := (gotR Post.ok postZ (rPost r)).1 } }, (rPost r).2)
  else if c = 68 then ({ d with f := { d.f with dir := (gotR Post.ok postZ (rPost r)).1 } }, (rPost r).2)
  else if c = 119 then ({ d with f := { d.f with wcc := (gotR Wcc.ok wccZ (rWcc r)).1 } }, (rWcc r).2)
  else if c = 87 then ({ d with f := { d.f with wcc2 := (gotR Wcc.ok wccZ (rWcc r)).1 } }, (rWcc r).2)
  else if c = 120 then ({ d with f := { d.f with access := (rU32 r).1 } }, (rU32 r).2)
  else if c = 99 then ({ d with f := { d.f with count := (rU32 r).1 } }, (rU32 r).2)
  else if c = 115 then ({ d with f := { d.f with stable := (rU32 r).1 } }, (rU32 r).2)
  else if c = 118 then ({ d with f := { d.f with verf := (rU64 r).1 } }, (rU64 r).2)
  else if c = 101 then ({ d with f := { d.f with eof := (rBool r).1 } }, (rBool r).2)
  else if c = 100 then ({ d with f := { d.f with data := (rOpaque 256 r).1 } }, (rOpaque 256 r).2)
  else if c = 110 then ({ d with us := (numsK (rU32 r).2 (rU32 r).1).1 }, (numsK (rU32 r).2 (rU32 r).1).2)
  else if c = 108 then ({ d with es := (entsK false (rU32 r).2 (rU32 r).1).1 }, (entsK false (rU32 r).2 (rU32 r).1).2)
  else if c = 112 then ({ d with es := (entsK true (rU32 r).2 (rU32 r).1).1 }, (entsK true (rU32 r).2 (rU32 r).1).2)
  else (d, r)
/-- may it be -/
def pTkOk (c : Nat) (r : Rs) : Bool :=
  if c = 97 ∨ c = 68 then (gotR Post.ok postZ (rPost r)).2 == 0
  else if c = 119 ∨ c = 87 then (gotR Wcc.ok wccZ (rWcc r)).2 == 0
  else if c = 110 then decide ((rU32 r).1 ≤ 16) && ((numsK (rU32 r).2 (rU32 r).1).2.e == 0)
  else if c = 108 then decide ((rU32 r).1 ≤ 64) && (((rU32 r).2.e == 0) && (List.range (rU32 r).1).all fun i => oneOk false (entsK false (rU32 r).2 i).2)
  else if c = 112 then decide ((rU32 r).1 ≤ 64) && (((rU32 r).2.e == 0) && (List.range (rU32 r).1).all fun i => oneOk true (entsK true (rU32 r).2 i).2)
  else (pTk c ⟨fldsZ, [], []⟩ r).2.e == 0
/-- the first k letters' fields are taken -/
def pSt (l : List UInt8) (d : RepD) (r : Rs) (k : Nat) : RepD × Rs := (l.take k).foldl (fun x c => pTk c.toNat x.1 x.2) (d, r)
theorem pSt_succ (l : List UInt8) (d : RepD) (r : Rs) (k : Nat) (hk : k < l.length) : pSt l d r (k + 1) = pTk l[k].toNat (pSt l d r k).1 (pSt l d r k).2 := by
  unfold pSt
  rw [List.take_add_one, List.getElem?_eq_getElem hk, List.foldl_append]
  rfl
def pStOk (l : List UInt8) (d : RepD) (r : Rs) (k : Nat) : Bool := pTkOk (l.getD k 0).toNat (pSt l d r k).2
/-- results of a status alone -/
def repS (n : Nat) : RepD := ⟨{ fldsZ with status := n }, [], []⟩
end Go.Proofs.YtfjflkmhhbhceaaGreatDoor


/-
  Layer 8, walks: are results the same, with what is told of their lists (written by wip/tools/gensame8.py). Conditions: what slices.Equal tells of both lists.
-/
namespace Go.Proofs.YtfjflkmhhbhceaaGreatDoor
open Go.RowKit
attribute [local go_sem ↓] Go.wp_at_zero Go.wp_at_succ
attribute [local go_sem] rowAt_ptr rowOf_drew rowOf_drewN rowOf_alloc_past rowOf_new
attribute [local go_sem ↓] ldReply

attribute [local go_sem] Reply.at0 Reply.lat0 Reply.at1 Reply.lat1 Reply.at2 Reply.lat2 Reply.at3 Reply.lat3 Reply.at4 Reply.lat4 Reply.at5 Reply.lat5 Reply.at6 Reply.lat6 Reply.at7 Reply.lat7 Reply.at8 Reply.lat8 Reply.at9 Reply.lat9 Reply.at10 Reply.lat10 Reply.at11 Reply.lat11 Reply.at12 Reply.lat12 Reply.at13 Reply.lat13 Reply.at14 Reply.lat14 Reply.at15 Reply.lat15 Reply.at16 Reply.lat16 Reply.at17 Reply.lat17 Reply.at18 Reply.lat18 Reply.at19 Reply.lat19 Reply.at20 Reply.lat20 Reply.at21 Reply.lat21 Reply.at22 Reply.lat22 Reply.at23 Reply.lat23 Reply.at24 Reply.lat24 Reply.at25 Reply.lat25 Reply.at26 Reply.lat26 Reply.at27 Reply.lat27 Reply.at28 Reply.lat28 Reply.at29 Reply.lat29 Reply.at30 Reply.lat30 Reply.at31 Reply.lat31 Reply.at32 Reply.lat32 Reply.at33 Reply.lat33 Reply.at34 Reply.lat34 Reply.at35 Reply.lat35 Reply.at36 Reply.lat36 Reply.at37 Reply.lat37 Reply.at38 Reply.lat38 Reply.at39 Reply.lat39 Reply.at40 Reply.lat40 Reply.at41 Reply.lat41 Reply.at42 Reply.lat42 Reply.at43 Reply.lat43 Reply.at44 Reply.lat44 Reply.at45 Reply.lat45 Reply.at46 Reply.lat46 Reply.at47 Reply.lat47 Reply.at48 Reply.lat48 Reply.at49 Reply.lat49 Reply.at50 Reply.lat50 Reply.at51 Reply.lat51 Reply.at52 Reply.lat52 Reply.at53 Reply.lat53 Reply.at54 Reply.lat54 Reply.at55 Reply.lat55 Reply.at56 Reply.lat56 Reply.at57 Reply.lat57 Reply.sub0_58 Reply.lsub0_58 Reply.sub2_11 Reply.lsub2_11 Reply.sub3_10 Reply.lsub3_10 Reply.sub13_11 Reply.lsub13_11 Reply.sub14_10 Reply.lsub14_10 Reply.sub24_13 Reply.lsub24_13 Reply.sub24_2 Reply.lsub24_2 Reply.sub26_11 Reply.lsub26_11 Reply.sub27_10 Reply.lsub27_10 Reply.sub37_13 Reply.lsub37_13 Reply.sub37_2 Reply.lsub37_2 Reply.sub39_11 Reply.lsub39_11 Reply.sub40_10 Reply.lsub40_10 Reply.len

theorem Flds.inj {x y : Flds} (h : x.vals = y.vals) : x = y := by
  obtain ⟨_, _, _, ⟨_, ⟨_, _, _, _, _, _, _, _, _, _⟩⟩, ⟨_, ⟨_, _, _, _, _, _, _, _, _, _⟩⟩, ⟨⟨_, _⟩, ⟨_, ⟨_, _, _, _, _, _, _, _, _, _⟩⟩⟩, ⟨⟨_, _⟩, ⟨_, ⟨_, _, _, _, _, _, _, _, _, _⟩⟩⟩, _, _, _, _, _⟩ := x
  obtain ⟨_, _, _, ⟨_, ⟨_, _, _, _, _, _, _, _, _, _⟩⟩, ⟨_, ⟨_, _, _, _, _, _, _, _, _, _⟩⟩, ⟨⟨_, _⟩, ⟨_, ⟨_, _, _, _, _, _, _, _, _, _⟩⟩⟩, ⟨⟨_, _⟩, ⟨_, ⟨_, _, _, _, _, _, _, _, _, _⟩⟩⟩, _, _, _, _, _⟩ := y
  simp only [Flds.vals, Post.vals, Wcc.vals, Opt.vals, Attr.vals, List.cons_append, List.nil_append, List.cons.injEq, Value.int.injEq, Value.bool.injEq, Value.string.injEq, true_and, and_true] at h
  obtain ⟨h0, h1, h2, h3, h4, h5, h6, h7, h8, h9, h10, h11, h12, h13, h14, h15, h16, h17, h18, h19, h20, h21, h22, h23, h24, h25, h26, h27, h28, h29, h30, h31, h32, h33, h34, h35, h36, h37, h38, h39, h40, h41, h42, h43, h44, h45, h46, h47, h48, h49, h50, h51, h52, h53, h54, h55⟩ := h
  have h1 := bs_inj h1
  have h2 := bs_inj h2
  subst_vars
  rfl
theorem setCells_past8 (u : World) (o : Obj) (n : Nat) (_hn : n < u.heap.size) : ∀ (vs : List Value) (i : Nat) (u : World), n < u.heap.size → (u.alloc o).setCells n i vs = (u.setCells n i vs).alloc o
  | [], _, _, _ => rfl
  | v :: vs, i, u, h => by
    rw [World.setCells, World.setCells, World.setCell_alloc_past _ _ _ _ h]
    exact setCells_past8 u o n h vs (i + 1) _ (by simpa using h)
theorem setCells_drew8 (n : Nat) : ∀ (vs : List Value) (i : Nat) (u : World), u.drew.setCells n i vs = (u.setCells n i vs).drew
  | [], _, _ => rfl
  | v :: vs, i, u => by
    rw [World.setCells, World.setCells]
    exact setCells_drew8 n vs (i + 1) (u.setCell ⟨n, i, none⟩ v)
theorem storeGen8 (r : Reply) (X : World) (n : Nat) (hB : Blk X n 51 replyZ.vals) : (storeCells ⟨n, 0, none⟩ r.vals 0).run Tryz.prog X = .ok () (X.setCells n 0 r.vals) := by
  have ht := hB.there 0 58 (by rw [Reply.len]; omega)
  exact run_storeCells_cells (P := Tryz.prog) n 0 r.vals 0 X (fun j hj => by simpa only [Nat.zero_add, Nat.add_zero] using (ht j (by rw [Reply.len] at hj; exact hj)).1) (fun j hj => by simpa only [Nat.zero_add, Nat.add_zero] using (ht j (by rw [Reply.len] at hj; exact hj)).2) (Reply.one _)
theorem set1_8 (r : Reply) (u : World) (o : Obj) : ((u.alloc (.cells replyZ.vals.toArray 51)).alloc o).setCells u.heap.size 0 r.vals = (u.alloc (.cells r.vals.toArray 51)).alloc o := by
  have h1 := setCells_new u 51 r.vals [] replyZ.vals rfl
  have h2 := setCells_past8 (u.alloc (.cells replyZ.vals.toArray 51)) o u.heap.size (by simp) r.vals 0 (u.alloc (.cells replyZ.vals.toArray 51)) (by simp)
  rw [h2]
  exact congrArg (fun x => x.alloc o) h1
theorem set2_8 (r : Reply) (u : World) (o : Obj) : ((u.alloc o).alloc (.cells replyZ.vals.toArray 51)).setCells (u.heap.size + 1) 0 r.vals = (u.alloc o).alloc (.cells r.vals.toArray 51) := by
  have h1 := setCells_new (u.alloc o) 51 r.vals [] replyZ.vals rfl
  have hs : (u.alloc o).heap.size = u.heap.size + 1 := by simp
  rw [hs] at h1
  exact h1
theorem store1_8 (r : Reply) (u : World) (o : Obj) : (storeCells ⟨u.heap.size, 0, none⟩ r.vals 0).run Tryz.prog ((u.alloc (.cells #[.int .i64 0, .string ⟨#[]⟩, .bool false, .int .i64 0, .int .i64 0, .int .i64 0, .int .i64 0, .int .i64 0, .int .i64 0, .int .i64 0, .int .i64 0, .int .i64 0, .int .i64 0, .bool false, .int .i64 0, .int .i64 0, .int .i64 0, .int .i64 0, .int .i64 0, .int .i64 0, .int .i64 0, .int .i64 0, .int .i64 0, .int .i64 0, .bool false, .int .i64 0, .bool false, .int .i64 0, .int .i64 0, .int .i64 0, .int .i64 0, .int .i64 0, .int .i64 0, .int .i64 0, .int .i64 0, .int .i64 0, .int .i64 0, .bool false, .int .i64 0, .bool false, .int .i64 0, .int .i64 0, .int .i64 0, .int .i64 0, .int .i64 0, .int .i64 0, .int .i64 0, .int .i64 0, .int .i64 0, .int .i64 0, .int .i64 0, .int .i64 0, .bool false, .string ⟨#[]⟩, .int .i64 0, .int .i64 0, .slice none 0 0, .slice none 0 0] 51)).alloc o).drew = .ok () ((u.alloc (.cells r.vals.toArray 51)).alloc o).drew := by
  rw [← set1_8 r u o, ← setCells_drew8]
  exact storeGen8 r _ _ (Blk.drew ((Blk.new u _ replyZ.vals).alloc o))
theorem store2_8 (r : Reply) (u : World) (o : Obj) : (storeCells ⟨u.heap.size + 1, 0, none⟩ r.vals 0).run Tryz.prog ((u.alloc o).alloc (.cells #[.int .i64 0, .string ⟨#[]⟩, .bool false, .int .i64 0, .int .i64 0, .int .i64 0, .int .i64 0, .int .i64 0, .int .i64 0, .int .i64 0, .int .i64 0, .int .i64 0, .int .i64 0, .bool false, .int .i64 0, .int .i64 0, .int .i64 0, .int .i64 0, .int .i64 0, .int .i64 0, .int .i64 0, .int .i64 0, .int .i64 0, .int .i64 0, .bool false, .int .i64 0, .bool false, .int .i64 0, .int .i64 0, .int .i64 0, .int .i64 0, .int .i64 0, .int .i64 0, .int .i64 0, .int .i64 0, .int .i64 0, .int .i64 0, .bool false, .int .i64 0, .bool false, .int .i64 0, .int .i64 0, .int .i64 0, .int .i64 0, .int .i64 0, .int .i64 0, .int .i64 0, .int .i64 0, .int .i64 0, .int .i64 0, .int .i64 0, .int .i64 0, .bool false, .string ⟨#[]⟩, .int .i64 0, .int .i64 0, .slice none 0 0, .slice none 0 0] 51)).drew = .ok () ((u.alloc o).alloc (.cells r.vals.toArray 51)).drew := by
  rw [← set2_8 r u o, ← setCells_drew8]
  have hs : (u.alloc o).heap.size = u.heap.size + 1 := by simp
  exact storeGen8 r _ _ (Blk.drew (hs ▸ Blk.new (u.alloc o) _ replyZ.vals))
attribute [local go_sem ↓] store1_8 store2_8

end Go.Proofs.YtfjflkmhhbhceaaGreatDoor
