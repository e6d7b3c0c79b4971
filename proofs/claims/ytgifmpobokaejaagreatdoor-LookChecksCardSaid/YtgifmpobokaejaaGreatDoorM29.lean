/-
  Layer 22, walks: a name is looked up. Conditions: machine texts; the library's tables and errors are laid.
-/
import Derived.Test.YtgifmpobokaejaaGreatDoorM27
import Derived.Test.YtgifmpobokaejaaGreatDoorM19
import Derived.Test.YtgifmpobokaejaaGreatDoorM28
import Derived.Test.YtgifmpobokaejaaGreatDoorM09
import Derived.Test.YtgifmpobokaejaaGreatDoorM20
namespace Go.Proofs.YtgifmpobokaejaaGreatDoor
open Go.RowKit
attribute [local go_sem ↓] Go.wp_at_zero Go.wp_at_succ
attribute [local go_sem] rowAt_ptr rowOf_drew rowOf_drewN rowOf_alloc_past rowOf_new
attribute [local go_sem ↓] ldAsk22 ldNode22 ldCred6 ldAttrR ldTree22 ldCall

theorem step_store_whole {P : Program} {ops : Array Oper} {o : Oper} {a : Act} {w : World} {K : Act → World → Prop} {Q : Exit → Act → World → Prop} {E : Prop} (hgd : o.guard = none) (T : TypeId) (x y : Operand) (ho : o.op = .store T x y)
    (b : Nat) (cs old : List Value) {T' : TypeId} (hB : Blk w b T' old) (hl : old.length = cs.length) (hx : a.eval x = .pointer (some ⟨b, 0, none⟩)) (hy : a.eval y = .agg cs.toArray) (hi : (P.info? T).map (·.size) = some cs.length)
    (h1 : ∀ v ∈ cs, v.oneCell' = true) (h : K (a.put o.dst undef) (w.setCells b 0 cs)) : if Region.wanted o (yielded ops a.tmps) = true then Oper.wp P o a w K Q else E := by
  have hw : Region.wanted o (yielded ops a.tmps) = true := by simp [Region.wanted, hgd]
  rw [if_pos hw]
  exact wp_store_mid T x y ho b 0 cs.toArray hx hy (hB.there 0 _ (by simp [hl])) (by simpa using hi) (all_oneCell_toArray h1) (by simpa using h)
def blkOf22 : Value → Nat
  | .pointer (some ⟨b, 0, none⟩) => b
  | _ => 0
def isPtr22 : Value → Bool
  | .pointer (some ⟨_, 0, none⟩) => true
  | _ => false
def oneV22 : Value → Bool
  | .int _ _ => true
  | .string _ => true
  | .bool _ => true
  | .slice _ _ _ => true
  | _ => false
def allV22 : List Value → Bool
  | [] => true
  | v :: vs => oneV22 v && allV22 vs
def rowV22 : Value → Bool
  | .agg cs => decide (cs.toList.length = 58) && allV22 cs.toList
  | _ => false
theorem oneV22_one : ∀ v, oneV22 v = true → v.oneCell' = true := by
  intro v h
  cases v <;> first | rfl | cases h
theorem allV22_one : ∀ vs, allV22 vs = true → ∀ v ∈ vs, v.oneCell' = true
  | [], _, v, hv => absurd hv (by simp)
  | u :: us, h, v, hv => by
    unfold allV22 at h
    rw [Bool.and_eq_true] at h
    rcases List.mem_cons.1 hv with rfl | hv
    · exact oneV22_one _ h.1
    · exact allV22_one us h.2 v hv
theorem hi22 {n : Nat} (h : n = 58) : (Tryz.prog.info? 48).map (·.size) = some n := by
  rw [h]
  kernel_rfl
theorem exStore22 {ρ : Operand → Value} {w : World} {dst : Option Tmp} {ty : TypeId} {pos : String} {after : Array Edge} {g : Option (Nat × Bool)} {x y : Operand} (hx : isPtr22 (ρ x) = true) (hy : rowV22 (ρ y) = true) (hB : Blk w (blkOf22 (ρ x)) 48 replyZ.vals) :
    (execOp ρ ⟨dst, .store 48 x y, ty, pos, after, g⟩).run Tryz.prog w = .ok .skip (w.setCells (blkOf22 (ρ x)) 0 (ρ y).cells.toList) := by
  obtain ⟨b, hb⟩ : ∃ b, ρ x = .pointer (some ⟨b, 0, none⟩) := by
    unfold isPtr22 at hx
    split at hx
    · next h => exact ⟨_, h⟩
    · cases hx
  obtain ⟨cs, hc⟩ : ∃ cs, ρ y = .agg cs := by
    unfold rowV22 at hy
    split at hy
    · next h => exact ⟨_, h⟩
    · cases hy
  rw [hb] at hB ⊢
  rw [hc] at hy
  unfold rowV22 at hy
  simp only [Bool.and_eq_true, decide_eq_true_eq] at hy
  have hsz : cs.size = 58 := by rw [← Array.length_toList]; exact hy.1
  have h1 : cs.all (·.oneCell') = true := Array.all_eq_true_iff_forall_mem.2 (fun v hv => allV22_one _ hy.2 v (by simpa using hv))
  have ht : w.there b 0 cs.size := by rw [hsz]; exact Blk.there (by exact hB) 0 58 (by rw [Reply.len]; omega)
  unfold execOp
  simp only [hb, hc, Instr.storeAt, Instr.sureAddr, Sem.run_bind, Sem.run_pure, Result.andThen_ok, run_storeVar_mid (P := Tryz.prog) w b 0 48 cs ht (hi22 hsz) h1]
  rfl
attribute [local go_sem ↓] exStore22

attribute [local go_sem] blkOf22 isPtr22 rowV22 allV22 oneV22

def ndZ : Nd := ⟨attrZ, ⟨#[]⟩, 0, 0, 0, none, 0, 0⟩
def nodeAt (ns : List Nd) (k : Int) : Nd := ns.getD k.toNat ndZ
theorem placeOf_at {ns : List Nd} {gen : Int} (h : ¬ placeOf ns gen < 0) : ∃ k : Nat, placeOf ns gen = k ∧ ∃ hk : k < ns.length, nodeAt ns (placeOf ns gen) = ns[k] ∧ ns[k].attr.gen = gen := by
  unfold placeOf findI at h ⊢
  cases hf : ns.findIdx? (fun n : Nd => n.attr.gen == gen) with
  | none => rw [hf] at h; exact absurd (show (-1 : Int) < 0 by decide) h
  | some k =>
    rw [List.findIdx?_eq_some_iff_getElem] at hf
    obtain ⟨hk, hg, -⟩ := hf
    refine ⟨k, rfl, hk, ?_, by simpa using hg⟩
    simp [nodeAt, List.getD, List.getElem?_eq_getElem hk]
/-- what is told of a name -/
def lookupR (ns : List Nd) (u : Cred) (c : Call) (n : Nd) (es : List Entry) : Reply :=
  if n.attr.type ≠ 2 then statR 20
  else if nameSt c.name ≠ 0 then statR (nameSt c.name)
  else if mayB (bitsP n.attr u.uid u.gid) 1 = false then statR 13
  else if (findGen es c.name).2 = false ∨ placeOf ns (findGen es c.name).1 < 0 then statR 2
  else { replyZ with fh := genText (findGen es c.name).1, obj := postN (nodeAt ns (placeOf ns (findGen es c.name).1)) }
set_option maxRecDepth 20000 in
set_option maxHeartbeats 3200000 in
theorem askLookup_any (t : Tr) (u : Cred) (c : Call) (n : Nd) (es : List Entry) (w : World) (hl : t.ns.length ≤ 9223372036854775807) (hA : At w 15 t.na (t.ns.map Nd.vals)) (hgen : ∀ m ∈ t.ns, m.attr.gen ≤ 9223372036854775807)
    (hen : n.en = es.length) (hes : es.length ≤ 9223372036854775807) (hE : At w 15 n.ea (es.map Entry.vals)) (hcn : c.name.length ≤ 9223372036854775807) (hL : LookLaid w) :
    Calls Tryz.prog 71 #[.agg (askV t u c n).toArray] w fun e w' => e = .returned (.agg (lookupR t.ns u c n es).vals.toArray) ∧ Below w.heap.size w w' := by
  obtain ⟨bA, bR, hB, hs⟩ := chain2_blks w (askV t u c n) replyZ.vals 76 48
  obtain ⟨w1, hw1⟩ : ∃ V, V = (w.alloc (.cells (askV t u c n).toArray 76)).alloc (.cells replyZ.vals.toArray 48) := ⟨_, rfl⟩
  rw [← hw1] at bA bR hB hs
  have c34 : w1.cell? ⟨w.heap.size, 34, none⟩ = some (.int .i64 n.attr.type) := bA.cell 34
  have c12 : w1.cell? ⟨w.heap.size, 12, none⟩ = some (.string (bs c.name)) := bA.cell 12
  have c48 : w1.cell? ⟨w.heap.size, 48, none⟩ = some (.slice n.ea es.length n.ec) := by rw [bA.cell 48, ← hen]; rfl
  have c5 : w1.cell? ⟨w.heap.size, 5, none⟩ = some (.slice t.na t.ns.length t.nc) := bA.cell 5
  have r0 : rowOf w1 w.heap.size 0 49 = some (askV t u c n).toArray := by
    have := bA.row 0 49 (by rw [askV_len]; omega)
    rwa [show ((askV t u c n).drop 0).take 49 = askV t u c n from rfl] at this
  have r6 : rowOf w1 w.heap.size 0 6 = some t.vals.toArray := bA.row 0 6 (by rw [askV_len]; omega)
  have HL := Lib.hid (show lookupR t.ns u c n es = if n.attr.type ≠ 2 then statR 20 else if nameSt c.name ≠ 0 then statR (nameSt c.name) else if mayB (bitsP n.attr u.uid u.gid) 1 = false then statR 13 else if (findGen es c.name).2 = false ∨ placeOf t.ns (findGen es c.name).1 < 0 then statR 2 else { replyZ with fh := genText (findGen es c.name).1, obj := postN (nodeAt t.ns (placeOf t.ns (findGen es c.name).1)) } from rfl)
  have KM := Lib.hid (fun W => askMay_any t u c n 1 W)
  have KC := Lib.hid (fun W => check4_any c.name W hcn)
  have KF := Lib.hid (fun W hE => find20_any n.ea n.ec es c.name W hes hE)
  have KO := Lib.hid (fun W g hA => lookOf_any t g W hl hA)
  have HPL := Lib.hid (fun h => placeOf_at (ns := t.ns) (gen := (findGen es c.name).1) h)
  have hlA := bA.lt
  have HW1 := Lib.hid hw1
  have hE1 := hE.below hB
  have hA1 := hA.below hB
  have HA0 := Lib.hid hA
  unfold Tr.val at KO
  generalize lookupR t.ns u c n es = lr at *
  generalize mayB (bitsP n.attr u.uid u.gid) 1 = m at *
  generalize nameSt c.name = st at *
  generalize hfg : findGen es c.name = fg at *
  obtain ⟨gen, is⟩ := fg
  simp only at HL KF HPL
  clear hw1 bA hs hA hE hfg
  by_cases h2 : n.attr.type = 2
  case neg =>
    have HQ := Lib.hid (HL.out.trans (if_pos h2))
    have h2' : (n.attr.type != 2) = true := by simpa using h2
    obtain ⟨z, hz⟩ : ∃ z : Reply, z = statR 20 := ⟨_, rfl⟩
    rw [HQ.out, ← hz]
    have HZ := Lib.hid hz
    clear hz
    go_enter Tryz.func71, Tryz.ntmps71
    go_upto_region 1 with fail
    change Code.wp _ _ _ _ ((w.alloc (.cells (askV t u c n).toArray 76)).alloc (.cells replyZ.vals.toArray 48))
    rw [← HW1.out]
    go_wp2_with fail
    refine (lookStatus_any 20 _).mono ?_
    rintro e wz ⟨rfl, hbz⟩
    have HR := Lib.hid (retReply22 (z := z) (bR.stays hbz) (below_then hB hbz))
    replace bR := bR.stays hbz
    clear hbz
    go_wp2_with (first | (refine wpList_store_whole (by rfl) 48 _ _ (by rfl) (w.heap.size + 1) z.vals _ bR (by rfl) (by rfl) (by first | rfl | (rw [HZ.out]; done) | (rw [HZ.out]; rfl)) (by kernel_rfl) (Reply.one _) ?_) | fail)
    exact ret_cells (w.heap.size + 1) 0 z.vals Tryz.results71 Tryz.underlying48 rfl (by kernel_rfl) rfl HR.out.1.range rfl ⟨rfl, HR.out.2⟩
  have HL2 := Lib.hid (HL.out.trans (if_neg (by simpa using h2)))
  rw [h2] at c34
  go_enter Tryz.func71, Tryz.ntmps71
  go_upto_region 1 with fail
  change Code.wp _ _ _ _ ((w.alloc (.cells (askV t u c n).toArray 76)).alloc (.cells replyZ.vals.toArray 48))
  rw [← HW1.out]
  go_wp2_with fail
  refine (KC.out _).mono ?_
  rintro e w2 ⟨rfl, rfl⟩
  by_cases h0 : st = 0
  case neg =>
    have h0' : (st != 0) = true := by simpa using h0
    obtain ⟨z, hz⟩ : ∃ z : Reply, z = statR st := ⟨_, rfl⟩
    have HQQ := Lib.hid (HL2.out.trans (if_pos h0))
    rw [← hz] at HQQ
    have HZ := Lib.hid hz
    clear hz
    go_wp2_with fail
    refine (lookStatus_any st _).mono ?_
    rintro e wz ⟨rfl, hbz⟩
    have HR := Lib.hid (retReply22 (z := z) (bR.stays hbz) (below_then hB hbz))
    replace bR := bR.stays hbz
    clear hbz
    go_wp2_with (first | (refine wpList_store_whole (by rfl) 48 _ _ (by rfl) (w.heap.size + 1) z.vals _ bR (by rfl) (by rfl) (by first | rfl | (rw [HZ.out]; done) | (rw [HZ.out]; rfl)) (by kernel_rfl) (Reply.one _) ?_) | fail)
    exact ret_cells (w.heap.size + 1) 0 z.vals Tryz.results71 Tryz.underlying48 rfl (by kernel_rfl) rfl HR.out.1.range rfl ⟨by rw [HQQ.out], HR.out.2⟩
  have HL3 := Lib.hid (HL2.out.trans (if_neg (by simpa using h0)))
  subst h0
  go_wp2_with fail
  refine (KM.out _).mono ?_
  rintro e w2 ⟨rfl, hb⟩
  replace c12 := (hb.cell (p := ⟨w.heap.size, 12, none⟩) hlA).trans c12
  replace c48 := (hb.cell (p := ⟨w.heap.size, 48, none⟩) hlA).trans c48
  replace c5 := (hb.cell (p := ⟨w.heap.size, 5, none⟩) hlA).trans c5
  replace r6 := (rowOf_below hb hlA 0 6).trans r6
  replace bR := bR.stays hb
  replace hE1 := hE1.below hb
  replace hA1 := hA1.below hb
  replace hB := below_then hB hb
  replace hlA := Nat.lt_of_lt_of_le hlA hb.size
  clear hb c34 r0
  cases m
  case false =>
    obtain ⟨z, hz⟩ : ∃ z : Reply, z = statR 13 := ⟨_, rfl⟩
    have HQQ := Lib.hid (HL3.out.trans (if_pos rfl))
    rw [← hz] at HQQ
    have HZ := Lib.hid hz
    clear hz
    go_wp2_with fail
    refine (lookStatus_any 13 _).mono ?_
    rintro e wz ⟨rfl, hbz⟩
    have HR := Lib.hid (retReply22 (z := z) (bR.stays hbz) (below_then hB hbz))
    replace bR := bR.stays hbz
    clear hbz
    go_wp2_with (first | (refine wpList_store_whole (by rfl) 48 _ _ (by rfl) (w.heap.size + 1) z.vals _ bR (by rfl) (by rfl) (by first | rfl | (rw [HZ.out]; done) | (rw [HZ.out]; rfl)) (by kernel_rfl) (Reply.one _) ?_) | fail)
    exact ret_cells (w.heap.size + 1) 0 z.vals Tryz.results71 Tryz.underlying48 rfl (by kernel_rfl) rfl HR.out.1.range rfl ⟨by rw [HQQ.out], HR.out.2⟩
  have HL4 := Lib.hid (HL3.out.trans (if_neg (by simp)))
  go_wp2_with fail
  refine (KF.out _ hE1).mono ?_
  rintro e w3 ⟨rfl, hb⟩
  replace c5 := (hb.cell (p := ⟨w.heap.size, 5, none⟩) hlA).trans c5
  replace r6 := (rowOf_below hb hlA 0 6).trans r6
  replace bR := bR.stays hb
  replace hA1 := hA1.below hb
  replace hB := below_then hB hb
  replace hlA := Nat.lt_of_lt_of_le hlA hb.size
  clear hb c12 c48 hE1
  have KO3 := Lib.hid (KO.out _ gen hA1)
  generalize hpl : placeOf t.ns gen = pl at *
  go_wp2_with fail
  refine KO3.out.mono ?_
  rintro e w4 ⟨rfl, hb⟩
  replace c5 := (hb.cell (p := ⟨w.heap.size, 5, none⟩) hlA).trans c5
  replace bR := bR.stays hb
  replace hA1 := hA1.below hb
  replace hB := below_then hB hb
  replace hlA := Nat.lt_of_lt_of_le hlA hb.size
  clear hb r6 KO3
  cases is
  case false =>
    obtain ⟨z, hz⟩ : ∃ z : Reply, z = statR 2 := ⟨_, rfl⟩
    have HQQ := Lib.hid (HL4.out.trans (if_pos (.inl rfl)))
    rw [← hz] at HQQ
    have HZ := Lib.hid hz
    clear hz
    go_wp2_with fail
    refine (lookStatus_any 2 _).mono ?_
    rintro e wz ⟨rfl, hbz⟩
    have HR := Lib.hid (retReply22 (z := z) (bR.stays hbz) (below_then hB hbz))
    replace bR := bR.stays hbz
    clear hbz
    go_wp2_with (first | (refine wpList_store_whole (by rfl) 48 _ _ (by rfl) (w.heap.size + 1) z.vals _ bR (by rfl) (by rfl) (by first | rfl | (rw [HZ.out]; done) | (rw [HZ.out]; rfl)) (by kernel_rfl) (Reply.one _) ?_) | fail)
    exact ret_cells (w.heap.size + 1) 0 z.vals Tryz.results71 Tryz.underlying48 rfl (by kernel_rfl) rfl HR.out.1.range rfl ⟨by rw [HQQ.out], HR.out.2⟩
  by_cases hp : pl < 0
  case pos =>
    obtain ⟨z, hz⟩ : ∃ z : Reply, z = statR 2 := ⟨_, rfl⟩
    have HQQ := Lib.hid (HL4.out.trans (if_pos (.inr hp)))
    rw [← hz] at HQQ
    have HZ := Lib.hid hz
    clear hz
    go_wp2_with fail
    refine (lookStatus_any 2 _).mono ?_
    rintro e wz ⟨rfl, hbz⟩
    have HR := Lib.hid (retReply22 (z := z) (bR.stays hbz) (below_then hB hbz))
    replace bR := bR.stays hbz
    clear hbz
    go_wp2_with (first | (refine wpList_store_whole (by rfl) 48 _ _ (by rfl) (w.heap.size + 1) z.vals _ bR (by rfl) (by rfl) (by first | rfl | (rw [HZ.out]; done) | (rw [HZ.out]; rfl)) (by kernel_rfl) (Reply.one _) ?_) | fail)
    exact ret_cells (w.heap.size + 1) 0 z.vals Tryz.results71 Tryz.underlying48 rfl (by kernel_rfl) rfl HR.out.1.range rfl ⟨by rw [HQQ.out], HR.out.2⟩
  have HL5 := Lib.hid (HL4.out.trans (if_neg (by simpa using hp)))
  obtain ⟨k, hk1, hk2, hk3, hk4⟩ := HPL.out (by omega)
  rw [hk3] at HL5
  subst hk1
  obtain ⟨b1, o1, hna, hb1, r1, -⟩ := rowCell8 Nd.len (by decide) hA1 hk2
  rw [hna] at c5
  have hgle := hgen _ (List.getElem_mem hk2)
  rw [hk4] at hgle
  have hki : (0 : Int) ≤ (k : Int) := Int.natCast_nonneg _
  have hkl : (k : Int) < (t.ns.length : Int) := by omega
  obtain ⟨b0, o0, hna0, hb0, -⟩ := rowCell8 Nd.len (by decide) HA0.out hk2
  have hbb : b1 = b0 := by rw [hna] at hna0; injection hna0 with h; injection h with h1 h2
  have hne1 : ¬ b1 = w.heap.size + 1 := by omega
  clear hna0 hb0 hbb
  generalize t.ns[k] = nd at *
  obtain ⟨⟨a0, a1, a2, a3, a4, a5, a6, a7, a8, a9⟩, nd1, nd2, nd3, nd4, nd5, nd6, nd7, hnd⟩ : ∃ (at_ : Attr) (nd1 : ByteArray) (nd2 nd3 nd4 : Int) (nd5 : Option Addr) (nd6 nd7 : Nat), nd = ⟨at_, nd1, nd2, nd3, nd4, nd5, nd6, nd7⟩ := ⟨_, _, _, _, _, _, _, _, rfl⟩
  have KP := Lib.hid (fun W => (show Calls Tryz.prog 34 #[.agg nd.vals.toArray] W fun e w' => e = .returned (.agg #[.bool true, .int .i64 a0, .int .i64 a1, .int .i64 a2, .int .i64 a3, .int .i64 a4, .int .i64 a5, .int .i64 a6, .int .i64 a7, .int .i64 a8, .int .i64 a9]) ∧ Below W.heap.size W w' by
    have := lookPost_any nd W
    rw [show (postN nd).vals.toArray = #[.bool true, .int .i64 a0, .int .i64 a1, .int .i64 a2, .int .i64 a3, .int .i64 a4, .int .i64 a5, .int .i64 a6, .int .i64 a7, .int .i64 a8, .int .i64 a9] by rw [hnd]; rfl] at this
    exact this))
  obtain ⟨z, hz⟩ : ∃ z : Reply, z = { replyZ with fh := genText gen, obj := postN nd } := ⟨_, rfl⟩
  rw [← hz] at HL5
  have HZ := Lib.hid (show z = { replyZ with fh := genText gen, obj := ⟨true, ⟨a0, a1, a2, a3, a4, a5, a6, a7, a8, a9⟩⟩ } by rw [hz, hnd]; rfl)
  have hL4 : LookLaid w4.drew := hL.below hB.drew
  have bR4 : Blk w4.drew (w.heap.size + 1) 48 replyZ.vals := bR
  have KT := Lib.hid (fun W hL => lookText_any gen W hgle hL)
  generalize genText gen = gt at *
  have hb1l := hb1
  clear hz hnd hk3 hk4 hA1 HPL HA0
  go_wp2_with fail
  go_region_law (first
    | (go_simp; go_at_call 82; refine (KT.out _ ?_).mono ?_; (with_reducible assumption); rintro e wt ⟨rfl, hbt⟩; have hTt := Touch.of_below hbt (fun k => k = w.heap.size + 1); have bRt := Blk.stays (by with_reducible assumption : Blk _ (w.heap.size + 1) 48 replyZ.vals) hbt; have hLt := LookLaid.below (by with_reducible assumption) hbt; (first | (have hBt : Below w.heap.size w wt := below_then hB.drew hbt) | (have hBt : Below w.heap.size w wt := below_then hBp hbt)); first | (have hSt : StQ (w.heap.size + 1) w4 wt := StQ.of ((Touch.refl _ _).drew.then_ hTt)) | skip)
    | (go_simp; go_at_call 34; refine (KP.out _).mono ?_; rintro e wp ⟨rfl, hbp⟩; have hTp := Touch.of_below hbp (fun k => k = w.heap.size + 1); have bRp := Blk.stays (by with_reducible assumption : Blk _ (w.heap.size + 1) 48 replyZ.vals) hbp; have hLp := LookLaid.below (by with_reducible assumption) hbp; (first | (have hBp : Below w.heap.size w wp := below_then hB.drew hbp) | (have hBp : Below w.heap.size w wp := below_then hBt hbp)); first | (have hSp : StQ (w.heap.size + 1) w4 wp := StQ.of ((Touch.refl _ _).drew.then_ hTp)) | skip))
  all_goals (first
    | (change Exit.then _ _ _ _ (wp.setCells (w.heap.size + 1) 0 ({ replyZ with fh := gt, obj := ⟨true, ⟨a0, a1, a2, a3, a4, a5, a6, a7, a8, a9⟩⟩ } : Reply).vals); have HR := Lib.hid (retReply22 (z := ({ replyZ with fh := gt, obj := ⟨true, ⟨a0, a1, a2, a3, a4, a5, a6, a7, a8, a9⟩⟩ } : Reply)) bRp hBp); clear bRp hBp; go_wp2; exact ret_cells (w.heap.size + 1) 0 ({ replyZ with fh := gt, obj := ⟨true, ⟨a0, a1, a2, a3, a4, a5, a6, a7, a8, a9⟩⟩ } : Reply).vals Tryz.results71 Tryz.underlying48 rfl (by kernel_rfl) rfl HR.out.1.range rfl ⟨by rw [HL5.out, HZ.out], HR.out.2⟩)
    | (change Exit.then _ _ _ _ (wt.setCells (w.heap.size + 1) 0 ({ replyZ with fh := gt, obj := ⟨true, ⟨a0, a1, a2, a3, a4, a5, a6, a7, a8, a9⟩⟩ } : Reply).vals); have HR := Lib.hid (retReply22 (z := ({ replyZ with fh := gt, obj := ⟨true, ⟨a0, a1, a2, a3, a4, a5, a6, a7, a8, a9⟩⟩ } : Reply)) bRt hBt); clear bRt hBt; go_wp2; exact ret_cells (w.heap.size + 1) 0 ({ replyZ with fh := gt, obj := ⟨true, ⟨a0, a1, a2, a3, a4, a5, a6, a7, a8, a9⟩⟩ } : Reply).vals Tryz.results71 Tryz.underlying48 rfl (by kernel_rfl) rfl HR.out.1.range rfl ⟨by rw [HL5.out, HZ.out], HR.out.2⟩))
end Go.Proofs.YtgifmpobokaejaaGreatDoor

/-
  Layer 22, plain: whether a directory comes to the root, as the program asks it and as the document does. Condition: the root is there.
-/
namespace Go.Proofs.YtgifmpobokaejaaGreatDoor

/-- the program's loop -/
def comesP (ns : List Nd) : Nat → Nd → Bool
  | 0, n => n.attr.gen == 1
  | k + 1, n => if n.attr.gen = 1 then true else if placeOf ns n.parent < 0 then false else comesP ns k (nodeAt ns (placeOf ns n.parent))
/-- the document's -/
def comesR (ns : List Nd) : Nat → Int → Bool
  | 0, a => a == 1
  | k + 1, a => if a = 1 then true else if placeOf ns a < 0 then false else comesR ns k (nodeAt ns (placeOf ns a)).parent
theorem comes_step {ns : List Nd} (hr : ¬ placeOf ns 1 < 0) : ∀ (k : Nat) (n : Nd), n.attr.gen ≠ 1 → comesP ns (k + 1) n = comesR ns k n.parent
  | 0, n, hn => by
    unfold comesP comesR
    rw [if_neg hn]
    by_cases hp : placeOf ns n.parent < 0
    · rw [if_pos hp]
      have h1 : n.parent ≠ 1 := fun h => hr (h ▸ hp)
      exact (beq_false_of_ne h1).symm
    · rw [if_neg hp]
      obtain ⟨k, -, hk, h1, h2⟩ := placeOf_at hp
      unfold comesP
      rw [h1, h2]
  | k + 1, n, hn => by
    rw [comesP, comesR, if_neg hn]
    by_cases hp : placeOf ns n.parent < 0
    · have h1 : n.parent ≠ 1 := fun h => hr (h ▸ hp)
      rw [if_pos hp, if_neg h1, if_pos hp]
    · rw [if_neg hp]
      obtain ⟨j, -, hj, h1, h2⟩ := placeOf_at hp
      by_cases h3 : n.parent = 1
      · rw [if_pos h3, comesP, h1, if_pos (h2.trans h3)]
      · rw [if_neg h3, if_neg hp]
        exact comes_step hr k _ (by rw [h1, h2]; exact h3)
theorem comes_more {ns : List Nd} : ∀ (k : Nat) (a : Int), comesR ns k a = true → comesR ns (k + 1) a = true
  | 0, a, h => by
    unfold comesR at h ⊢
    rw [if_pos (by simpa using h)]
  | k + 1, a, h => by
    rw [comesR] at h ⊢
    by_cases h1 : a = 1
    · rw [if_pos h1]
    · rw [if_neg h1] at h ⊢
      by_cases h2 : placeOf ns a < 0
      · rw [if_pos h2] at h; cases h
      · rw [if_neg h2] at h ⊢
        exact comes_more k _ h
theorem pigeon22 : ∀ (m : Nat) (f : Nat → Nat), (∀ i, i ≤ m → f i < m) → ∃ a b, a < b ∧ b ≤ m ∧ f a = f b
  | 0, f, h => absurd (h 0 (Nat.le_refl _)) (Nat.not_lt_zero _)
  | m + 1, f, h => by
    by_cases hx : ∃ i, i ≤ m ∧ f i = f (m + 1)
    · obtain ⟨i, hi, he⟩ := hx
      exact ⟨i, m + 1, by omega, Nat.le_refl _, he⟩
    · have hno : ∀ i, i ≤ m → f i ≠ f (m + 1) := fun i hi he => hx ⟨i, hi, he⟩
      have hv := h (m + 1) (Nat.le_refl _)
      obtain ⟨a, b, hab, hbm, he⟩ := pigeon22 m (fun i => if f i = m then f (m + 1) else f i) (fun i hi => by
        have h1 := h i (by omega)
        have h2 := hno i hi
        show (if f i = m then f (m + 1) else f i) < m
        split <;> omega)
      refine ⟨a, b, hab, by omega, ?_⟩
      have ha := hno a (by omega)
      have hb := hno b hbm
      change (if f a = m then f (m + 1) else f a) = (if f b = m then f (m + 1) else f b) at he
      split at he <;> split at he <;> omega
/-- the nodes' numbers that are come by -/
def atS (ns : List Nd) (a : Int) : Nat → Int
  | 0 => a
  | i + 1 => (nodeAt ns (placeOf ns (atS ns a i))).parent
theorem atS_shift (ns : List Nd) (a : Int) : ∀ i, atS ns a (i + 1) = atS ns (nodeAt ns (placeOf ns a)).parent i
  | 0 => rfl
  | i + 1 => by rw [atS, atS_shift ns a i, atS]
theorem comesR_path {ns : List Nd} : ∀ (k : Nat) (a : Int), comesR ns k a = true → ∃ j, j ≤ k ∧ atS ns a j = 1 ∧ ∀ i, i < j → atS ns a i ≠ 1 ∧ ¬ placeOf ns (atS ns a i) < 0
  | 0, a, h => ⟨0, Nat.le_refl _, (by show a = 1; simpa [comesR] using h), fun i hi => absurd hi (Nat.not_lt_zero _)⟩
  | k + 1, a, h => by
    rw [comesR] at h
    by_cases h1 : a = 1
    · exact ⟨0, Nat.zero_le _, h1, fun i hi => absurd hi (Nat.not_lt_zero _)⟩
    · rw [if_neg h1] at h
      by_cases h2 : placeOf ns a < 0
      · rw [if_pos h2] at h; cases h
      · rw [if_neg h2] at h
        obtain ⟨j, hj, he, hall⟩ := comesR_path k _ h
        refine ⟨j + 1, by omega, by rw [atS_shift]; exact he, fun i hi => ?_⟩
        cases i with
        | zero => exact ⟨h1, h2⟩
        | succ i => rw [atS_shift]; exact hall i (by omega)
theorem comesR_of {ns : List Nd} : ∀ (k j : Nat) (a : Int), j ≤ k → atS ns a j = 1 → (∀ i, i < j → ¬ placeOf ns (atS ns a i) < 0) → comesR ns k a = true
  | 0, j, a, hj, he, _ => by
    obtain rfl : j = 0 := by omega
    have h : a = 1 := he
    simp [comesR, h]
  | k + 1, j, a, hj, he, hall => by
    rw [comesR]
    by_cases h1 : a = 1
    · rw [if_pos h1]
    · cases j with
      | zero => exact absurd he h1
      | succ j =>
        have h2 : ¬ placeOf ns a < 0 := hall 0 (by omega)
        rw [if_neg h1, if_neg h2]
        refine comesR_of k j _ (by omega) (by rw [← atS_shift]; exact he) (fun i hi => ?_)
        rw [← atS_shift]
        exact hall (i + 1) (by omega)
theorem comesR_less {ns : List Nd} {n : Nd} (hn : n ∈ ns) (h : comesR ns ns.length n.parent = true) : comesR ns (ns.length - 1) n.parent = true := by
  obtain ⟨j, hj, he, hall⟩ := comesR_path _ _ h
  by_cases hl : j ≤ ns.length - 1
  · exact comesR_of _ j _ hl he (fun i hi => (hall i hi).2)
  have hjl : j = ns.length := by omega
  subst hjl
  obtain ⟨i0, hi0, hn0⟩ := List.getElem_of_mem hn
  have hP : ∀ i, i ≤ ns.length → (if i = 0 then i0 else (placeOf ns (atS ns n.parent (i - 1))).toNat) < ns.length ∧ (nodeAt ns ((if i = 0 then i0 else (placeOf ns (atS ns n.parent (i - 1))).toNat : Nat) : Int)).parent = atS ns n.parent i := by
    intro i hi
    cases i with
    | zero =>
      refine ⟨hi0, ?_⟩
      simp only [if_true]
      rw [show nodeAt ns ((i0 : Nat) : Int) = n by simp [nodeAt, List.getD, List.getElem?_eq_getElem hi0, hn0]]
      rfl
    | succ i =>
      obtain ⟨k, hk, hk2, -, -⟩ := placeOf_at (hall i (by omega)).2
      simp only [Nat.add_sub_cancel, Nat.succ_ne_zero, if_false]
      rw [hk, Int.toNat_natCast]
      refine ⟨hk2, ?_⟩
      rw [atS, hk]
  obtain ⟨a, b, hab, hb, hf⟩ := pigeon22 ns.length (fun i => if i = 0 then i0 else (placeOf ns (atS ns n.parent (i - 1))).toNat) (fun i hi => (hP i hi).1)
  change (if a = 0 then i0 else (placeOf ns (atS ns n.parent (a - 1))).toNat) = (if b = 0 then i0 else (placeOf ns (atS ns n.parent (b - 1))).toNat) at hf
  have e0 : atS ns n.parent a = atS ns n.parent b := by rw [← (hP a (by omega)).2, ← (hP b hb).2, hf]
  have e : ∀ t, atS ns n.parent (a + t) = atS ns n.parent (b + t) := fun t => by
    induction t with
    | zero => exact e0
    | succ t ih => rw [← Nat.add_assoc, ← Nat.add_assoc, atS, atS, ih]
  have h1 := e (ns.length - b)
  rw [show b + (ns.length - b) = ns.length by omega, he] at h1
  exact absurd h1 (hall _ (by omega)).1
/-- both loops answer alike -/
theorem comes_same {ns : List Nd} {n : Nd} (hr : ¬ placeOf ns 1 < 0) (hn : n ∈ ns) (hg : n.attr.gen ≠ 1) : comesP ns ns.length n = comesR ns ns.length n.parent := by
  have hpos : 0 < ns.length := List.length_pos_of_mem hn
  obtain ⟨k, hk⟩ : ∃ k, ns.length = k + 1 := ⟨ns.length - 1, by omega⟩
  have h1 : comesP ns ns.length n = comesR ns (ns.length - 1) n.parent := by
    rw [hk, Nat.add_sub_cancel]
    exact comes_step hr k n hg
  rw [h1]
  cases h : comesR ns (ns.length - 1) n.parent with
  | true =>
    have := comes_more _ _ h
    rw [show ns.length - 1 + 1 = ns.length by omega] at this
    exact this.symm
  | false =>
    cases h2 : comesR ns ns.length n.parent with
    | false => rfl
    | true => exact h.symm.trans (comesR_less hn h2)
end Go.Proofs.YtgifmpobokaejaaGreatDoor


/-
  Layer 22, plain: which entries, nodes and trees may be. No condition.
-/
namespace Go.Proofs.YtgifmpobokaejaaGreatDoor
open Go.RowKit

/-- may an entry be at its place? -/
def EntAt (l : List Entry) (k : Nat) (hk : k < l.length) : Prop :=
  1 ≤ l[k].gen ∧ 1 ≤ l[k].cookie ∧ l[k].fh = [] ∧ l[k].attr = postZ8 ∧ findName l l[k].name = (k : Int) ∧ nameSt l[k].name = 0 ∧ (0 < k → (l[k - 1]'(Nat.lt_of_le_of_lt (Nat.sub_le _ _) hk)).cookie < l[k].cookie)
def EntsK (l : List Entry) (k : Nat) : Prop := ∀ (j : Nat) (hj : j < l.length), j < k → EntAt l j hj
/-- may entries be? -/
def EntsOk (l : List Entry) : Prop := ∀ (j : Nat) (hj : j < l.length), EntAt l j hj
theorem EntsK.zero (l : List Entry) : EntsK l 0 := fun _ _ h => absurd h (Nat.not_lt_zero _)
theorem EntsK.next {l : List Entry} {k : Nat} (h : EntsK l k) (hk : k < l.length) (hn : EntAt l k hk) : EntsK l (k + 1) := fun j hj hjk => by
  rcases Nat.lt_or_ge j k with h1 | h1
  · exact h j hj h1
  · obtain rfl : j = k := by omega
    exact hn
theorem EntsK.all {l : List Entry} (h : EntsK l l.length) : EntsOk l := fun j hj => h j hj hj
/-- the same, of letters -/
def CondE (x : Entry) (F N : Int) (k : Nat) (pc : Int) : Prop := 1 ≤ x.gen ∧ 1 ≤ x.cookie ∧ x.fh = [] ∧ x.attr = postZ8 ∧ F = (k : Int) ∧ N = 0 ∧ (0 < k → pc < x.cookie)
theorem EntsOk.good {l : List Entry} (h : EntsOk l) : goodL l :=
  ⟨fun x hx => by
    obtain ⟨i, hi, rfl⟩ := List.getElem_of_mem hx
    exact ⟨(h i hi).2.1, nameSt_short (h i hi).2.2.2.2.2.1⟩, fun i hi => by
    have := (h (i + 1) hi).2.2.2.2.2.2 (Nat.succ_pos i)
    exact this⟩
/-- a bool comes back, that tells whether something is so -/
def TellsP (P : Prop) (w : World) (e : Ending) (w' : World) : Prop := ∃ b, e = .returned (.bool b) ∧ (b = true ↔ P) ∧ Below w.heap.size w w'
theorem TellsP.no {P : Prop} {w w' : World} (hn : ¬ P) (hb : Below w.heap.size w w') : TellsP P w (.returned (.bool false)) w' := ⟨false, rfl, ⟨(fun h => by cases h), fun h => absurd h hn⟩, hb⟩
theorem TellsP.yes {P : Prop} {w w' : World} (h : P) (hb : Below w.heap.size w w') : TellsP P w (.returned (.bool true)) w' := ⟨true, rfl, ⟨fun _ => h, fun _ => rfl⟩, hb⟩
theorem TellsP.is {P : Prop} {b : Bool} {w w' : World} (h : b = true ↔ P) (hb : Below w.heap.size w w') : TellsP P w (.returned (.bool b)) w' := ⟨b, rfl, h, hb⟩

/-- how many of a directory's entries name a node, beside those ahead -/
def namedE (g d : Int) : List Entry → Int × Int → Int × Int
  | [], a => a
  | x :: l, a => namedE g d l (if x.gen = g then (a.1 + 1, d) else a)
def namedF (g : Int) : List (Nd × List Entry) → Int × Int → Int × Int
  | [], a => a
  | p :: l, a => namedF g l (namedE g p.1.attr.gen p.2 a)
/-- how many entries name a node, and the directory of the last one -/
def named (ps : List (Nd × List Entry)) (g : Int) : Int × Int := namedF g ps (0, 0)
theorem namedE_le (g d : Int) : ∀ (l : List Entry) (a : Int × Int), a.1 ≤ (namedE g d l a).1 ∧ (namedE g d l a).1 ≤ a.1 + l.length
  | [], a => by simp [namedE]
  | x :: l, a => by
    have h := namedE_le g d l (if x.gen = g then (a.1 + 1, d) else a)
    rw [namedE, List.length_cons]
    split at h
    · rename_i hx
      rw [if_pos hx]
      simp only at h
      omega
    · rename_i hx
      rw [if_neg hx]
      omega
/-- how many links a directory has -/
def linksK (ns : List Nd) : List Entry → Int → Int
  | [], a => a
  | x :: l, a => linksK ns l (if (nodeAt ns (placeOf ns x.gen)).attr.type = 2 then a + 1 else a)
def linksOf (ns : List Nd) (es : List Entry) : Int := linksK ns es 2
/-- may a directory be? (C: whether it comes to the root) -/
def DirOk (C : Nd → Prop) (ps : List (Nd × List Entry)) (ns : List Nd) (n : Nd) (es : List Entry) : Prop :=
  (∀ x ∈ es, 1 ≤ placeOf ns x.gen ∧ x.cookie ≤ n.last) ∧ EntsOk es ∧ n.attr.nlink = linksOf ns es ∧ n.data.size = 0 ∧ n.verf = 0 ∧ (n.attr.gen = 1 → n.parent = 1) ∧ (n.attr.gen ≠ 1 → (named ps n.attr.gen).1 = 1 ∧ (named ps n.attr.gen).2 = n.parent ∧ C n)
/-- may what is no directory be? -/
def OthOk (ps : List (Nd × List Entry)) (n : Nd) (es : List Entry) : Prop :=
  es = [] ∧ n.parent = 0 ∧ n.last = 0 ∧ n.attr.nlink = (named ps n.attr.gen).1 ∧ 1 ≤ (named ps n.attr.gen).1 ∧ (named ps n.attr.gen).1 ≤ 8 ∧
  (n.attr.type = 1 → n.data.size ≤ 1024 ∧ 0 ≤ n.verf) ∧ (n.attr.type = 5 → targetSt n.data.data.toList = 0 ∧ n.verf = 0) ∧ (n.attr.type ≠ 1 → n.attr.type ≠ 5 → n.data.size = 0 ∧ n.verf = 0)
/-- may a node be at its place? -/
def NodOk (C : Nd → Prop) (t : Tr) (ps : List (Nd × List Entry)) (k : Nat) (n : Nd) (es : List Entry) : Prop :=
  n.attr.ok = true ∧ 1 ≤ n.attr.id ∧ 1 ≤ n.attr.gen ∧ n.attr.gen ≤ t.gens ∧ n.attr.change ≤ t.now ∧ n.attr.size = (n.data.size : Int) ∧ (k = 0 → n.attr.gen = 1 ∧ n.attr.type = 2) ∧
  (0 < k → (t.ns.getD (k - 1) ndZ).attr.gen < n.attr.gen) ∧ (∀ j, j < k → (t.ns.getD j ndZ).attr.id ≠ n.attr.id) ∧ (n.attr.type = 2 → DirOk C ps t.ns n es) ∧ (n.attr.type ≠ 2 → OthOk ps n es)
def NodsK (C : Nd → Prop) (t : Tr) (ps : List (Nd × List Entry)) (k : Nat) : Prop := ∀ (j : Nat) (hj : j < ps.length), j < k → NodOk C t ps j ps[j].1 ps[j].2
/-- may a tree be? -/
def TreeOk (C : Nd → Prop) (t : Tr) (ps : List (Nd × List Entry)) : Prop := t.lim.ok = true ∧ 1 ≤ t.ns.length ∧ (t.ns.length : Int) ≤ t.lim.nodes ∧ ∀ (j : Nat) (hj : j < ps.length), NodOk C t ps j ps[j].1 ps[j].2
theorem NodsK.zero {C : Nd → Prop} {t : Tr} {ps : List (Nd × List Entry)} : NodsK C t ps 0 := fun _ _ h => absurd h (Nat.not_lt_zero _)
theorem NodsK.next {C : Nd → Prop} {t : Tr} {ps : List (Nd × List Entry)} {k : Nat} (h : NodsK C t ps k) (hk : k < ps.length) (hn : NodOk C t ps k ps[k].1 ps[k].2) : NodsK C t ps (k + 1) := fun j hj hjk => by
  rcases Nat.lt_or_ge j k with h1 | h1
  · exact h j hj h1
  · obtain rfl : j = k := by omega
    exact hn
/-- by the document, and by the program -/
def comesD (ns : List Nd) (n : Nd) : Prop := comesR ns ns.length n.parent = true
def comesG (ns : List Nd) (n : Nd) : Prop := comesP ns ns.length n = true
theorem placeOf_first {ns : List Nd} (h : 0 < ns.length) (hg : (ns[0]).attr.gen = 1) : ¬ placeOf ns 1 < 0 := by
  intro hlt
  cases ns with
  | nil => exact absurd h (Nat.lt_irrefl _)
  | cons n l =>
    change n.attr.gen = 1 at hg
    have e : List.findIdx? (fun n : Nd => n.attr.gen == 1) (n :: l) = some 0 := by simp [List.findIdx?_cons, hg]
    unfold placeOf findI at hlt
    rw [e] at hlt
    exact absurd (show ((0 : Nat) : Int) < 0 from hlt) (by decide)
theorem comes_iff {t : Tr} {ps : List (Nd × List Entry)} (hns : t.ns = ps.map (·.1)) (h0 : 0 < ps.length) (hg0 : ps[0].1.attr.gen = 1) {k : Nat} (hk : k < ps.length) (hg : ps[k].1.attr.gen ≠ 1) : comesG t.ns ps[k].1 ↔ comesD t.ns ps[k].1 := by
  unfold comesG comesD
  have hl : 0 < t.ns.length := by rw [hns, List.length_map]; exact h0
  have he : (t.ns[0]).attr.gen = 1 := by simp only [hns, List.getElem_map]; exact hg0
  rw [comes_same (placeOf_first hl he) (by rw [hns]; exact List.mem_map_of_mem (List.getElem_mem hk)) hg]
theorem DirOk.turn {C D : Nd → Prop} {ps : List (Nd × List Entry)} {ns : List Nd} {n : Nd} {es : List Entry} (hCD : n.attr.gen ≠ 1 → C n → D n) (h : DirOk C ps ns n es) : DirOk D ps ns n es :=
  ⟨h.1, h.2.1, h.2.2.1, h.2.2.2.1, h.2.2.2.2.1, h.2.2.2.2.2.1, fun hg => ⟨(h.2.2.2.2.2.2 hg).1, (h.2.2.2.2.2.2 hg).2.1, hCD hg (h.2.2.2.2.2.2 hg).2.2⟩⟩
theorem NodOk.turn {C D : Nd → Prop} {t : Tr} {ps : List (Nd × List Entry)} {k : Nat} {n : Nd} {es : List Entry} (hCD : n.attr.gen ≠ 1 → C n → D n) (h : NodOk C t ps k n es) : NodOk D t ps k n es :=
  ⟨h.1, h.2.1, h.2.2.1, h.2.2.2.1, h.2.2.2.2.1, h.2.2.2.2.2.1, h.2.2.2.2.2.2.1, h.2.2.2.2.2.2.2.1, h.2.2.2.2.2.2.2.2.1, fun h2 => (h.2.2.2.2.2.2.2.2.2.1 h2).turn hCD, h.2.2.2.2.2.2.2.2.2.2⟩
/-- both ask alike -/
theorem TreeOk.iff {t : Tr} {ps : List (Nd × List Entry)} (hns : t.ns = ps.map (·.1)) : TreeOk (comesG t.ns) t ps ↔ TreeOk (comesD t.ns) t ps := by
  have hl : t.ns.length = ps.length := by rw [hns, List.length_map]
  constructor
  · intro h
    have h0 : 0 < ps.length := by have := h.2.1; omega
    have hg0 := ((h.2.2.2 0 h0).2.2.2.2.2.2.1 rfl).1
    exact ⟨h.1, h.2.1, h.2.2.1, fun j hj => (h.2.2.2 j hj).turn fun hg => (comes_iff hns h0 hg0 hj hg).1⟩
  · intro h
    have h0 : 0 < ps.length := by have := h.2.1; omega
    have hg0 := ((h.2.2.2 0 h0).2.2.2.2.2.2.1 rfl).1
    exact ⟨h.1, h.2.1, h.2.2.1, fun j hj => (h.2.2.2 j hj).turn fun hg => (comes_iff hns h0 hg0 hj hg).2⟩
end Go.Proofs.YtgifmpobokaejaaGreatDoor
