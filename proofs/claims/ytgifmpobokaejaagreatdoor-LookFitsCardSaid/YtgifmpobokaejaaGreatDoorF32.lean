/-
  Layer 22, walks: a name is looked up. Conditions: machine texts; the library's tables and errors are laid.
-/
import Derived.Test.YtgifmpobokaejaaGreatDoorF30
import Derived.Test.YtgifmpobokaejaaGreatDoorF21
import Derived.Test.YtgifmpobokaejaaGreatDoorF31
import Derived.Test.YtgifmpobokaejaaGreatDoorF11
import Derived.Test.YtgifmpobokaejaaGreatDoorF17
import Derived.Test.YtgifmpobokaejaaGreatDoorF10
import Derived.Test.YtgifmpobokaejaaGreatDoorF22
namespace Go.Proofs.YtgifmpobokaejaaGreatDoor
open Go.RowKit
attribute [local go_sem ↓] Go.wp_at_zero Go.wp_at_succ
attribute [local go_sem] rowAt_ptr rowOf_drew rowOf_drewN rowOf_alloc_past rowOf_new
attribute [local go_sem ↓] ldAsk22 ldNode22 ldCred6 ldAttrR ldTree22 ldCall

theorem step_store_whole {P : Program} {ops : Array Oper} {o : Oper} {a : Act} {w : World} {K : Act → World → Prop} {Q : Exit → Act → World → Prop} {E : Prop} (hgd : o.guard = none) (T : TypeId) (x y : Operand) (ho : o.op = .store T x y)
    (b : Nat) (cs old : List Value) {T' : TypeId} (hB : Blk w b T' old) (hl : old.length = cs.length) (hx : a.eval x = .pointer (some ⟨b, 0, none⟩)) (hy : a.eval y = .agg cs.toArray) (hi : (P.info? T).map (·.size) = some cs.length)
    (h1 : ∀ v ∈ cs, v.oneCell' = true) (h : K (a.put o.dst undef) (w.setCells b 0 cs)) : if Region.wanted o (yielded ops a.tmps) = true then Oper.wp P o a w K Q else E := by
  have hw : Region.wanted o (yielded ops a.tmps) = true := by simp [Region.wanted, hgd]
  rw [if_pos hw]
  exact wp_store_mid T x y ho b 0 cs.toArray hx hy (hB.there 0 _ (by simp [hl])) (by simpa using hi) (all_oneCell_toArray h1) (by simpa using h)
def blkOf22 : Value → Nat
  | .pointer (some ⟨b, 0, none⟩) => b
  | _ => 0
def isPtr22 : Value → Bool
  | .pointer (some ⟨_, 0, none⟩) => true
  | _ => false
def oneV22 : Value → Bool
  | .int _ _ => true
  | .string _ => true
  | .bool _ => true
  | .slice _ _ _ => true
  | _ => false
def allV22 : List Value → Bool
  | [] => true
  | v :: vs => oneV22 v && allV22 vs
def rowV22 : Value → Bool
  | .agg cs => decide (cs.toList.length = 58) && allV22 cs.toList
  | _ => false
theorem oneV22_one : ∀ v, oneV22 v = true → v.oneCell' = true := by
  intro v h
  cases v <;> first | rfl | cases h
theorem allV22_one : ∀ vs, allV22 vs = true → ∀ v ∈ vs, v.oneCell' = true
  | [], _, v, hv => absurd hv (by simp)
  | u :: us, h, v, hv => by
    unfold allV22 at h
    rw [Bool.and_eq_true] at h
    rcases List.mem_cons.1 hv with rfl | hv
    · exact oneV22_one _ h.1
    · exact allV22_one us h.2 v hv
theorem hi22 {n : Nat} (h : n = 58) : (Tryz.prog.info? 48).map (·.size) = some n := by
  rw [h]
  kernel_rfl
theorem exStore22 {ρ : Operand → Value} {w : World} {dst : Option Tmp} {ty : TypeId} {pos : String} {after : Array Edge} {g : Option (Nat × Bool)} {x y : Operand} (hx : isPtr22 (ρ x) = true) (hy : rowV22 (ρ y) = true) (hB : Blk w (blkOf22 (ρ x)) 48 replyZ.vals) :
    (execOp ρ ⟨dst, .store 48 x y, ty, pos, after, g⟩).run Tryz.prog w = .ok .skip (w.setCells (blkOf22 (ρ x)) 0 (ρ y).cells.toList) := by
  obtain ⟨b, hb⟩ : ∃ b, ρ x = .pointer (some ⟨b, 0, none⟩) := by
    unfold isPtr22 at hx
    split at hx
    · next h => exact ⟨_, h⟩
    · cases hx
  obtain ⟨cs, hc⟩ : ∃ cs, ρ y = .agg cs := by
    unfold rowV22 at hy
    split at hy
    · next h => exact ⟨_, h⟩
    · cases hy
  rw [hb] at hB ⊢
  rw [hc] at hy
  unfold rowV22 at hy
  simp only [Bool.and_eq_true, decide_eq_true_eq] at hy
  have hsz : cs.size = 58 := by rw [← Array.length_toList]; exact hy.1
  have h1 : cs.all (·.oneCell') = true := Array.all_eq_true_iff_forall_mem.2 (fun v hv => allV22_one _ hy.2 v (by simpa using hv))
  have ht : w.there b 0 cs.size := by rw [hsz]; exact Blk.there (by exact hB) 0 58 (by rw [Reply.len]; omega)
  unfold execOp
  simp only [hb, hc, Instr.storeAt, Instr.sureAddr, Sem.run_bind, Sem.run_pure, Result.andThen_ok, run_storeVar_mid (P := Tryz.prog) w b 0 48 cs ht (hi22 hsz) h1]
  rfl
attribute [local go_sem ↓] exStore22

attribute [local go_sem] blkOf22 isPtr22 rowV22 allV22 oneV22

def ndZ : Nd := ⟨attrZ, ⟨#[]⟩, 0, 0, 0, none, 0, 0⟩
def nodeAt (ns : List Nd) (k : Int) : Nd := ns.getD k.toNat ndZ
theorem placeOf_at {ns : List Nd} {gen : Int} (h : ¬ placeOf ns gen < 0) : ∃ k : Nat, placeOf ns gen = k ∧ ∃ hk : k < ns.length, nodeAt ns (placeOf ns gen) = ns[k] ∧ ns[k].attr.gen = gen := by
  unfold placeOf findI at h ⊢
  cases hf : ns.findIdx? (fun n : Nd => n.attr.gen == gen) with
  | none => rw [hf] at h; exact absurd (show (-1 : Int) < 0 by decide) h
  | some k =>
    rw [List.findIdx?_eq_some_iff_getElem] at hf
    obtain ⟨hk, hg, -⟩ := hf
    refine ⟨k, rfl, hk, ?_, by simpa using hg⟩
    simp [nodeAt, List.getD, List.getElem?_eq_getElem hk]
/-- what is told of a name -/
def lookupR (ns : List Nd) (u : Cred) (c : Call) (n : Nd) (es : List Entry) : Reply :=
  if n.attr.type ≠ 2 then statR 20
  else if nameSt c.name ≠ 0 then statR (nameSt c.name)
  else if mayB (bitsP n.attr u.uid u.gid) 1 = false then statR 13
  else if (findGen es c.name).2 = false ∨ placeOf ns (findGen es c.name).1 < 0 then statR 2
  else { replyZ with fh := genText (findGen es c.name).1, obj := postN (nodeAt ns (placeOf ns (findGen es c.name).1)) }
set_option maxRecDepth 20000 in
set_option maxHeartbeats 3200000 in
theorem askLookup_any (t : Tr) (u : Cred) (c : Call) (n : Nd) (es : List Entry) (w : World) (hl : t.ns.length ≤ 9223372036854775807) (hA : At w 15 t.na (t.ns.map Nd.vals)) (hgen : ∀ m ∈ t.ns, m.attr.gen ≤ 9223372036854775807)
    (hen : n.en = es.length) (hes : es.length ≤ 9223372036854775807) (hE : At w 15 n.ea (es.map Entry.vals)) (hcn : c.name.length ≤ 9223372036854775807) (hL : LookLaid w) :
    Calls Tryz.prog 71 #[.agg (askV t u c n).toArray] w fun e w' => e = .returned (.agg (lookupR t.ns u c n es).vals.toArray) ∧ Below w.heap.size w w' := by
  obtain ⟨bA, bR, hB, hs⟩ := chain2_blks w (askV t u c n) replyZ.vals 76 48
  obtain ⟨w1, hw1⟩ : ∃ V, V = (w.alloc (.cells (askV t u c n).toArray 76)).alloc (.cells replyZ.vals.toArray 48) := ⟨_, rfl⟩
  rw [← hw1] at bA bR hB hs
  have c34 : w1.cell? ⟨w.heap.size, 34, none⟩ = some (.int .i64 n.attr.type) := bA.cell 34
  have c12 : w1.cell? ⟨w.heap.size, 12, none⟩ = some (.string (bs c.name)) := bA.cell 12
  have c48 : w1.cell? ⟨w.heap.size, 48, none⟩ = some (.slice n.ea es.length n.ec) := by rw [bA.cell 48, ← hen]; rfl
  have c5 : w1.cell? ⟨w.heap.size, 5, none⟩ = some (.slice t.na t.ns.length t.nc) := bA.cell 5
  have r0 : rowOf w1 w.heap.size 0 49 = some (askV t u c n).toArray := by
    have := bA.row 0 49 (by rw [askV_len]; omega)
    rwa [show ((askV t u c n).drop 0).take 49 = askV t u c n from rfl] at this
  have r6 : rowOf w1 w.heap.size 0 6 = some t.vals.toArray := bA.row 0 6 (by rw [askV_len]; omega)
  have HL := Lib.hid (show lookupR t.ns u c n es = if n.attr.type ≠ 2 then statR 20 else if nameSt c.name ≠ 0 then statR (nameSt c.name) else if mayB (bitsP n.attr u.uid u.gid) 1 = false then statR 13 else if (findGen es c.name).2 = false ∨ placeOf t.ns (findGen es c.name).1 < 0 then statR 2 else { replyZ with fh := genText (findGen es c.name).1, obj := postN (nodeAt t.ns (placeOf t.ns (findGen es c.name).1)) } from rfl)
  have KM := Lib.hid (fun W => askMay_any t u c n 1 W)
  have KC := Lib.hid (fun W => check4_any c.name W hcn)
  have KF := Lib.hid (fun W hE => find20_any n.ea n.ec es c.name W hes hE)
  have KO := Lib.hid (fun W g hA => lookOf_any t g W hl hA)
  have HPL := Lib.hid (fun h => placeOf_at (ns := t.ns) (gen := (findGen es c.name).1) h)
  have hlA := bA.lt
  have HW1 := Lib.hid hw1
  have hE1 := hE.below hB
  have hA1 := hA.below hB
  have HA0 := Lib.hid hA
  unfold Tr.val at KO
  generalize lookupR t.ns u c n es = lr at *
  generalize mayB (bitsP n.attr u.uid u.gid) 1 = m at *
  generalize nameSt c.name = st at *
  generalize hfg : findGen es c.name = fg at *
  obtain ⟨gen, is⟩ := fg
  simp only at HL KF HPL
  clear hw1 bA hs hA hE hfg
  by_cases h2 : n.attr.type = 2
  case neg =>
    have HQ := Lib.hid (HL.out.trans (if_pos h2))
    have h2' : (n.attr.type != 2) = true := by simpa using h2
    obtain ⟨z, hz⟩ : ∃ z : Reply, z = statR 20 := ⟨_, rfl⟩
    rw [HQ.out, ← hz]
    have HZ := Lib.hid hz
    clear hz
    go_enter Tryz.func71, Tryz.ntmps71
    go_upto_region 1 with fail
    change Code.wp _ _ _ _ ((w.alloc (.cells (askV t u c n).toArray 76)).alloc (.cells replyZ.vals.toArray 48))
    rw [← HW1.out]
    go_wp2_with fail
    refine (lookStatus_any 20 _).mono ?_
    rintro e wz ⟨rfl, hbz⟩
    have HR := Lib.hid (retReply22 (z := z) (bR.stays hbz) (below_then hB hbz))
    replace bR := bR.stays hbz
    clear hbz
    go_wp2_with (first | (refine wpList_store_whole (by rfl) 48 _ _ (by rfl) (w.heap.size + 1) z.vals _ bR (by rfl) (by rfl) (by first | rfl | (rw [HZ.out]; done) | (rw [HZ.out]; rfl)) (by kernel_rfl) (Reply.one _) ?_) | fail)
    exact ret_cells (w.heap.size + 1) 0 z.vals Tryz.results71 Tryz.underlying48 rfl (by kernel_rfl) rfl HR.out.1.range rfl ⟨rfl, HR.out.2⟩
  have HL2 := Lib.hid (HL.out.trans (if_neg (by simpa using h2)))
  rw [h2] at c34
  go_enter Tryz.func71, Tryz.ntmps71
  go_upto_region 1 with fail
  change Code.wp _ _ _ _ ((w.alloc (.cells (askV t u c n).toArray 76)).alloc (.cells replyZ.vals.toArray 48))
  rw [← HW1.out]
  go_wp2_with fail
  refine (KC.out _).mono ?_
  rintro e w2 ⟨rfl, rfl⟩
  by_cases h0 : st = 0
  case neg =>
    have h0' : (st != 0) = true := by simpa using h0
    obtain ⟨z, hz⟩ : ∃ z : Reply, z = statR st := ⟨_, rfl⟩
    have HQQ := Lib.hid (HL2.out.trans (if_pos h0))
    rw [← hz] at HQQ
    have HZ := Lib.hid hz
    clear hz
    go_wp2_with fail
    refine (lookStatus_any st _).mono ?_
    rintro e wz ⟨rfl, hbz⟩
    have HR := Lib.hid (retReply22 (z := z) (bR.stays hbz) (below_then hB hbz))
    replace bR := bR.stays hbz
    clear hbz
    go_wp2_with (first | (refine wpList_store_whole (by rfl) 48 _ _ (by rfl) (w.heap.size + 1) z.vals _ bR (by rfl) (by rfl) (by first | rfl | (rw [HZ.out]; done) | (rw [HZ.out]; rfl)) (by kernel_rfl) (Reply.one _) ?_) | fail)
    exact ret_cells (w.heap.size + 1) 0 z.vals Tryz.results71 Tryz.underlying48 rfl (by kernel_rfl) rfl HR.out.1.range rfl ⟨by rw [HQQ.out], HR.out.2⟩
  have HL3 := Lib.hid (HL2.out.trans (if_neg (by simpa using h0)))
  subst h0
  go_wp2_with fail
  refine (KM.out _).mono ?_
  rintro e w2 ⟨rfl, hb⟩
  replace c12 := (hb.cell (p := ⟨w.heap.size, 12, none⟩) hlA).trans c12
  replace c48 := (hb.cell (p := ⟨w.heap.size, 48, none⟩) hlA).trans c48
  replace c5 := (hb.cell (p := ⟨w.heap.size, 5, none⟩) hlA).trans c5
  replace r6 := (rowOf_below hb hlA 0 6).trans r6
  replace bR := bR.stays hb
  replace hE1 := hE1.below hb
  replace hA1 := hA1.below hb
  replace hB := below_then hB hb
  replace hlA := Nat.lt_of_lt_of_le hlA hb.size
  clear hb c34 r0
  cases m
  case false =>
    obtain ⟨z, hz⟩ : ∃ z : Reply, z = statR 13 := ⟨_, rfl⟩
    have HQQ := Lib.hid (HL3.out.trans (if_pos rfl))
    rw [← hz] at HQQ
    have HZ := Lib.hid hz
    clear hz
    go_wp2_with fail
    refine (lookStatus_any 13 _).mono ?_
    rintro e wz ⟨rfl, hbz⟩
    have HR := Lib.hid (retReply22 (z := z) (bR.stays hbz) (below_then hB hbz))
    replace bR := bR.stays hbz
    clear hbz
    go_wp2_with (first | (refine wpList_store_whole (by rfl) 48 _ _ (by rfl) (w.heap.size + 1) z.vals _ bR (by rfl) (by rfl) (by first | rfl | (rw [HZ.out]; done) | (rw [HZ.out]; rfl)) (by kernel_rfl) (Reply.one _) ?_) | fail)
    exact ret_cells (w.heap.size + 1) 0 z.vals Tryz.results71 Tryz.underlying48 rfl (by kernel_rfl) rfl HR.out.1.range rfl ⟨by rw [HQQ.out], HR.out.2⟩
  have HL4 := Lib.hid (HL3.out.trans (if_neg (by simp)))
  go_wp2_with fail
  refine (KF.out _ hE1).mono ?_
  rintro e w3 ⟨rfl, hb⟩
  replace c5 := (hb.cell (p := ⟨w.heap.size, 5, none⟩) hlA).trans c5
  replace r6 := (rowOf_below hb hlA 0 6).trans r6
  replace bR := bR.stays hb
  replace hA1 := hA1.below hb
  replace hB := below_then hB hb
  replace hlA := Nat.lt_of_lt_of_le hlA hb.size
  clear hb c12 c48 hE1
  have KO3 := Lib.hid (KO.out _ gen hA1)
  generalize hpl : placeOf t.ns gen = pl at *
  go_wp2_with fail
  refine KO3.out.mono ?_
  rintro e w4 ⟨rfl, hb⟩
  replace c5 := (hb.cell (p := ⟨w.heap.size, 5, none⟩) hlA).trans c5
  replace bR := bR.stays hb
  replace hA1 := hA1.below hb
  replace hB := below_then hB hb
  replace hlA := Nat.lt_of_lt_of_le hlA hb.size
  clear hb r6 KO3
  cases is
  case false =>
    obtain ⟨z, hz⟩ : ∃ z : Reply, z = statR 2 := ⟨_, rfl⟩
    have HQQ := Lib.hid (HL4.out.trans (if_pos (.inl rfl)))
    rw [← hz] at HQQ
    have HZ := Lib.hid hz
    clear hz
    go_wp2_with fail
    refine (lookStatus_any 2 _).mono ?_
    rintro e wz ⟨rfl, hbz⟩
    have HR := Lib.hid (retReply22 (z := z) (bR.stays hbz) (below_then hB hbz))
    replace bR := bR.stays hbz
    clear hbz
    go_wp2_with (first | (refine wpList_store_whole (by rfl) 48 _ _ (by rfl) (w.heap.size + 1) z.vals _ bR (by rfl) (by rfl) (by first | rfl | (rw [HZ.out]; done) | (rw [HZ.out]; rfl)) (by kernel_rfl) (Reply.one _) ?_) | fail)
    exact ret_cells (w.heap.size + 1) 0 z.vals Tryz.results71 Tryz.underlying48 rfl (by kernel_rfl) rfl HR.out.1.range rfl ⟨by rw [HQQ.out], HR.out.2⟩
  by_cases hp : pl < 0
  case pos =>
    obtain ⟨z, hz⟩ : ∃ z : Reply, z = statR 2 := ⟨_, rfl⟩
    have HQQ := Lib.hid (HL4.out.trans (if_pos (.inr hp)))
    rw [← hz] at HQQ
    have HZ := Lib.hid hz
    clear hz
    go_wp2_with fail
    refine (lookStatus_any 2 _).mono ?_
    rintro e wz ⟨rfl, hbz⟩
    have HR := Lib.hid (retReply22 (z := z) (bR.stays hbz) (below_then hB hbz))
    replace bR := bR.stays hbz
    clear hbz
    go_wp2_with (first | (refine wpList_store_whole (by rfl) 48 _ _ (by rfl) (w.heap.size + 1) z.vals _ bR (by rfl) (by rfl) (by first | rfl | (rw [HZ.out]; done) | (rw [HZ.out]; rfl)) (by kernel_rfl) (Reply.one _) ?_) | fail)
    exact ret_cells (w.heap.size + 1) 0 z.vals Tryz.results71 Tryz.underlying48 rfl (by kernel_rfl) rfl HR.out.1.range rfl ⟨by rw [HQQ.out], HR.out.2⟩
  have HL5 := Lib.hid (HL4.out.trans (if_neg (by simpa using hp)))
  obtain ⟨k, hk1, hk2, hk3, hk4⟩ := HPL.out (by omega)
  rw [hk3] at HL5
  subst hk1
  obtain ⟨b1, o1, hna, hb1, r1, -⟩ := rowCell8 Nd.len (by decide) hA1 hk2
  rw [hna] at c5
  have hgle := hgen _ (List.getElem_mem hk2)
  rw [hk4] at hgle
  have hki : (0 : Int) ≤ (k : Int) := Int.natCast_nonneg _
  have hkl : (k : Int) < (t.ns.length : Int) := by omega
  obtain ⟨b0, o0, hna0, hb0, -⟩ := rowCell8 Nd.len (by decide) HA0.out hk2
  have hbb : b1 = b0 := by rw [hna] at hna0; injection hna0 with h; injection h with h1 h2
  have hne1 : ¬ b1 = w.heap.size + 1 := by omega
  clear hna0 hb0 hbb
  generalize t.ns[k] = nd at *
  obtain ⟨⟨a0, a1, a2, a3, a4, a5, a6, a7, a8, a9⟩, nd1, nd2, nd3, nd4, nd5, nd6, nd7, hnd⟩ : ∃ (at_ : Attr) (nd1 : ByteArray) (nd2 nd3 nd4 : Int) (nd5 : Option Addr) (nd6 nd7 : Nat), nd = ⟨at_, nd1, nd2, nd3, nd4, nd5, nd6, nd7⟩ := ⟨_, _, _, _, _, _, _, _, rfl⟩
  have KP := Lib.hid (fun W => (show Calls Tryz.prog 34 #[.agg nd.vals.toArray] W fun e w' => e = .returned (.agg #[.bool true, .int .i64 a0, .int .i64 a1, .int .i64 a2, .int .i64 a3, .int .i64 a4, .int .i64 a5, .int .i64 a6, .int .i64 a7, .int .i64 a8, .int .i64 a9]) ∧ Below W.heap.size W w' by
    have := lookPost_any nd W
    rw [show (postN nd).vals.toArray = #[.bool true, .int .i64 a0, .int .i64 a1, .int .i64 a2, .int .i64 a3, .int .i64 a4, .int .i64 a5, .int .i64 a6, .int .i64 a7, .int .i64 a8, .int .i64 a9] by rw [hnd]; rfl] at this
    exact this))
  obtain ⟨z, hz⟩ : ∃ z : Reply, z = { replyZ with fh := genText gen, obj := postN nd } := ⟨_, rfl⟩
  rw [← hz] at HL5
  have HZ := Lib.hid (show z = { replyZ with fh := genText gen, obj := ⟨true, ⟨a0, a1, a2, a3, a4, a5, a6, a7, a8, a9⟩⟩ } by rw [hz, hnd]; rfl)
  have hL4 : LookLaid w4.drew := hL.below hB.drew
  have bR4 : Blk w4.drew (w.heap.size + 1) 48 replyZ.vals := bR
  have KT := Lib.hid (fun W hL => lookText_any gen W hgle hL)
  generalize genText gen = gt at *
  have hb1l := hb1
  clear hz hnd hk3 hk4 hA1 HPL HA0
  go_wp2_with fail
  go_region_law (first
    | (go_simp; go_at_call 82; refine (KT.out _ ?_).mono ?_; (with_reducible assumption); rintro e wt ⟨rfl, hbt⟩; have hTt := Touch.of_below hbt (fun k => k = w.heap.size + 1); have bRt := Blk.stays (by with_reducible assumption : Blk _ (w.heap.size + 1) 48 replyZ.vals) hbt; have hLt := LookLaid.below (by with_reducible assumption) hbt; (first | (have hBt : Below w.heap.size w wt := below_then hB.drew hbt) | (have hBt : Below w.heap.size w wt := below_then hBp hbt)); first | (have hSt : StQ (w.heap.size + 1) w4 wt := StQ.of ((Touch.refl _ _).drew.then_ hTt)) | skip)
    | (go_simp; go_at_call 34; refine (KP.out _).mono ?_; rintro e wp ⟨rfl, hbp⟩; have hTp := Touch.of_below hbp (fun k => k = w.heap.size + 1); have bRp := Blk.stays (by with_reducible assumption : Blk _ (w.heap.size + 1) 48 replyZ.vals) hbp; have hLp := LookLaid.below (by with_reducible assumption) hbp; (first | (have hBp : Below w.heap.size w wp := below_then hB.drew hbp) | (have hBp : Below w.heap.size w wp := below_then hBt hbp)); first | (have hSp : StQ (w.heap.size + 1) w4 wp := StQ.of ((Touch.refl _ _).drew.then_ hTp)) | skip))
  all_goals (first
    | (change Exit.then _ _ _ _ (wp.setCells (w.heap.size + 1) 0 ({ replyZ with fh := gt, obj := ⟨true, ⟨a0, a1, a2, a3, a4, a5, a6, a7, a8, a9⟩⟩ } : Reply).vals); have HR := Lib.hid (retReply22 (z := ({ replyZ with fh := gt, obj := ⟨true, ⟨a0, a1, a2, a3, a4, a5, a6, a7, a8, a9⟩⟩ } : Reply)) bRp hBp); clear bRp hBp; go_wp2; exact ret_cells (w.heap.size + 1) 0 ({ replyZ with fh := gt, obj := ⟨true, ⟨a0, a1, a2, a3, a4, a5, a6, a7, a8, a9⟩⟩ } : Reply).vals Tryz.results71 Tryz.underlying48 rfl (by kernel_rfl) rfl HR.out.1.range rfl ⟨by rw [HL5.out, HZ.out], HR.out.2⟩)
    | (change Exit.then _ _ _ _ (wt.setCells (w.heap.size + 1) 0 ({ replyZ with fh := gt, obj := ⟨true, ⟨a0, a1, a2, a3, a4, a5, a6, a7, a8, a9⟩⟩ } : Reply).vals); have HR := Lib.hid (retReply22 (z := ({ replyZ with fh := gt, obj := ⟨true, ⟨a0, a1, a2, a3, a4, a5, a6, a7, a8, a9⟩⟩ } : Reply)) bRt hBt); clear bRt hBt; go_wp2; exact ret_cells (w.heap.size + 1) 0 ({ replyZ with fh := gt, obj := ⟨true, ⟨a0, a1, a2, a3, a4, a5, a6, a7, a8, a9⟩⟩ } : Reply).vals Tryz.results71 Tryz.underlying48 rfl (by kernel_rfl) rfl HR.out.1.range rfl ⟨by rw [HL5.out, HZ.out], HR.out.2⟩))
end Go.Proofs.YtgifmpobokaejaaGreatDoor

/-
  Layer 22, walks: numbers that are told. No condition.
-/
namespace Go.Proofs.YtgifmpobokaejaaGreatDoor
open Go.RowKit
attribute [local go_sem ↓] Go.wp_at_zero Go.wp_at_succ
attribute [local go_sem] rowAt_ptr rowOf_drew rowOf_drewN rowOf_alloc_past rowOf_new
attribute [local go_sem ↓] ldAsk22 ldNode22 ldCred6 ldAttrR ldTree22 ldCall

/-- the rows of results lie in blocks of the call's own -/
def FreshR (w : World) (z : Reply) : Prop := ∀ p, (z.ea = some p ∨ z.ua = some p) → w.heap.size ≤ p.block
/-- results, and their rows -/
def AskP (d : RepD) (w : World) (e : Ending) (w' : World) : Prop :=
  ∃ z : Reply, e = .returned (.agg z.vals.toArray) ∧ z.bare = d.f ∧ (z.en = d.es.length ∧ At w' 15 z.ea (d.es.map Entry.vals)) ∧ (z.un = d.us.length ∧ At w' 1 z.ua (d.us.map int1)) ∧ Below w.heap.size w w' ∧ FreshR w z

set_option maxRecDepth 20000 in
set_option maxHeartbeats 1600000 in
theorem ask_fsinfo_any (t : Tr) (u : Cred) (c : Call) (n : Nd) (w : World) : Calls Tryz.prog 78 #[.agg (askV t u c n).toArray] w (AskP ⟨fldsZ, [], [256, 256, 1024, 1024]⟩ w) := by
  obtain ⟨bA, bR, hB, hs⟩ := chain2_blks w (askV t u c n) replyZ.vals 76 48
  obtain ⟨w1, hw1⟩ : ∃ V, V = (w.alloc (.cells (askV t u c n).toArray 76)).alloc (.cells replyZ.vals.toArray 48) := ⟨_, rfl⟩
  rw [← hw1] at bA bR hB hs
  have hsz := hB.size
  have hx := (Below.refl w1.heap.size w1).alloc (Nat.le_refl _) (.cells (#[.int .i64 256, .int .i64 256, .int .i64 1024, .int .i64 1024] : Array Value) 3)
  have hAt : At (w1.alloc (.cells (#[.int .i64 256, .int .i64 256, .int .i64 1024, .int .i64 1024] : Array Value) 3)) 1 (some ⟨w1.heap.size, 0, none⟩) (([256, 256, 1024, 1024] : List Int).map int1) := At.fresh w1 3 1 w1.heap.size (([256, 256, 1024, 1024] : List Int).map int1) (by intro r hr; simp only [List.map_cons, List.map_nil, List.mem_cons, List.not_mem_nil, or_false] at hr; rcases hr with rfl | rfl | rfl | rfl <;> rfl) rfl
  obtain ⟨w2, hw2⟩ : ∃ V, V = w1.alloc (.cells (#[.int .i64 256, .int .i64 256, .int .i64 1024, .int .i64 1024] : Array Value) 3) := ⟨_, rfl⟩
  rw [← hw2] at hx hAt
  replace bR := bR.stays hx
  replace hB := below_then hB hx
  obtain ⟨z, hz⟩ : ∃ z : Reply, z = { replyZ with ua := some ⟨w1.heap.size, 0, none⟩, un := 4, uc := 4 } := ⟨_, rfl⟩
  have HR := Lib.hid (retReply22 (z := z) bR hB)
  have HZ := Lib.hid hz
  have HFR := Lib.hid (show FreshR w z from fun p h => by
    rw [hz] at h
    rcases h with h | h
    · cases h
    · injection h with h
      subst h
      exact hsz)
  have HW1 := Lib.hid hw1
  have HW2 := Lib.hid hw2
  have HAt := Lib.hid (hAt.touch (F := fun k => k = w.heap.size + 1) (Touch.setCells (F := fun k => k = w.heap.size + 1) (g := w.heap.size + 1) (.inl rfl) z.vals 0 w2 (Touch.refl _ _)) (fun b off h hf => by injection h with h; injection h with h1 _; omega))
  clear hw1 hw2 bA hx hAt hz hs hsz
  go_enter Tryz.func78, Tryz.ntmps78
  go_upto_region 1 with fail
  change Code.wp _ _ _ _ ((w.alloc (.cells (askV t u c n).toArray 76)).alloc (.cells replyZ.vals.toArray 48))
  rw [← HW1.out]
  rw [HW2.out] at bR
  go_wp2_with (first | (refine wpList_store_whole (by rfl) 48 _ _ (by rfl) (w.heap.size + 1) z.vals _ bR (by rfl) (by rfl) (by rw [HZ.out]; rfl) (by kernel_rfl) (Reply.one _) ?_; rw [← HW2.out]) | fail)
  refine ret_cells (w.heap.size + 1) 0 z.vals Tryz.results78 Tryz.underlying48 rfl (by kernel_rfl) rfl HR.out.1.range rfl ?_
  refine ⟨z, rfl, by rw [HZ.out]; rfl, ⟨by rw [HZ.out]; rfl, At.nil⟩, ⟨by rw [HZ.out]; rfl, ?_⟩, HR.out.2, HFR.out⟩
  have := HAt.out
  rw [HZ.out] at this ⊢
  exact this

set_option maxRecDepth 20000 in
set_option maxHeartbeats 1600000 in
theorem ask_pathconf_any (t : Tr) (u : Cred) (c : Call) (n : Nd) (w : World) : Calls Tryz.prog 79 #[.agg (askV t u c n).toArray] w (AskP ⟨fldsZ, [], [8, 24, 48]⟩ w) := by
  obtain ⟨bA, bR, hB, hs⟩ := chain2_blks w (askV t u c n) replyZ.vals 76 48
  obtain ⟨w1, hw1⟩ : ∃ V, V = (w.alloc (.cells (askV t u c n).toArray 76)).alloc (.cells replyZ.vals.toArray 48) := ⟨_, rfl⟩
  rw [← hw1] at bA bR hB hs
  have hsz := hB.size
  have hx := (Below.refl w1.heap.size w1).alloc (Nat.le_refl _) (.cells (#[.int .i64 8, .int .i64 24, .int .i64 48] : Array Value) 3)
  have hAt : At (w1.alloc (.cells (#[.int .i64 8, .int .i64 24, .int .i64 48] : Array Value) 3)) 1 (some ⟨w1.heap.size, 0, none⟩) (([8, 24, 48] : List Int).map int1) := At.fresh w1 3 1 w1.heap.size (([8, 24, 48] : List Int).map int1) (by intro r hr; simp only [List.map_cons, List.map_nil, List.mem_cons, List.not_mem_nil, or_false] at hr; rcases hr with rfl | rfl | rfl <;> rfl) rfl
  obtain ⟨w2, hw2⟩ : ∃ V, V = w1.alloc (.cells (#[.int .i64 8, .int .i64 24, .int .i64 48] : Array Value) 3) := ⟨_, rfl⟩
  rw [← hw2] at hx hAt
  replace bR := bR.stays hx
  replace hB := below_then hB hx
  obtain ⟨z, hz⟩ : ∃ z : Reply, z = { replyZ with ua := some ⟨w1.heap.size, 0, none⟩, un := 3, uc := 3 } := ⟨_, rfl⟩
  have HR := Lib.hid (retReply22 (z := z) bR hB)
  have HZ := Lib.hid hz
  have HFR := Lib.hid (show FreshR w z from fun p h => by
    rw [hz] at h
    rcases h with h | h
    · cases h
    · injection h with h
      subst h
      exact hsz)
  have HW1 := Lib.hid hw1
  have HW2 := Lib.hid hw2
  have HAt := Lib.hid (hAt.touch (F := fun k => k = w.heap.size + 1) (Touch.setCells (F := fun k => k = w.heap.size + 1) (g := w.heap.size + 1) (.inl rfl) z.vals 0 w2 (Touch.refl _ _)) (fun b off h hf => by injection h with h; injection h with h1 _; omega))
  clear hw1 hw2 bA hx hAt hz hs hsz
  go_enter Tryz.func79, Tryz.ntmps79
  go_upto_region 1 with fail
  change Code.wp _ _ _ _ ((w.alloc (.cells (askV t u c n).toArray 76)).alloc (.cells replyZ.vals.toArray 48))
  rw [← HW1.out]
  rw [HW2.out] at bR
  go_wp2_with (first | (refine wpList_store_whole (by rfl) 48 _ _ (by rfl) (w.heap.size + 1) z.vals _ bR (by rfl) (by rfl) (by rw [HZ.out]; rfl) (by kernel_rfl) (Reply.one _) ?_; rw [← HW2.out]) | fail)
  refine ret_cells (w.heap.size + 1) 0 z.vals Tryz.results79 Tryz.underlying48 rfl (by kernel_rfl) rfl HR.out.1.range rfl ?_
  refine ⟨z, rfl, by rw [HZ.out]; rfl, ⟨by rw [HZ.out]; rfl, At.nil⟩, ⟨by rw [HZ.out]; rfl, ?_⟩, HR.out.2, HFR.out⟩
  have := HAt.out
  rw [HZ.out] at this ⊢
  exact this

section
open Go.RowKit
attribute [local go_sem ↓] Go.wp_at_zero Go.wp_at_succ ldTree

attribute [local go_sem] rowAt_ptr rowOf_drew rowOf_drewN rowOf_alloc_at rowOf_alloc_past Tr.len

set_option maxRecDepth 20000 in
set_option maxHeartbeats 1600000 in
theorem numsF_any (t : Tr) (uid : Int) (w : World) (hs : small t.ns) (ho : t.lim.ok = true) (hA : At w 15 t.na (t.ns.map Nd.vals)) :
    Calls Tryz.prog 109 #[t.val, .int .i64 uid] w (fun e w2 => ∃ A c, e = .returned (.slice A (nums t uid).length c) ∧ At w2 1 A (ints (nums t uid)) ∧ Below w.heap.size w w2 ∧ ∀ p, A = some p → w.heap.size ≤ p.block) := by
  have hl := hs.1
  have hlb := Lim.bounds ho
  have hcr := range_new w t.vals 26
  have hrow := rowOf_of hcr (Tr.len t) (by omega)
  have c0 := hcr 0 _ rfl
  have c2 := hcr 2 _ rfl
  have c5 := hcr 5 _ rfl
  have hA1 := hA.alloc (.cells t.vals.toArray 26)
  have hB1 : Below w.heap.size w (w.alloc (.cells t.vals.toArray 26)) := (Below.refl _ _).alloc (Nat.le_refl _) _
  have hz1 : w.heap.size < (w.alloc (.cells t.vals.toArray 26)).heap.size := by simp
  clear hcr
  have HO := Lib.hid ho
  clear ho
  have HS := Lib.hid hs
  clear hs
  unfold Tr.val
  by_cases hm : (t.ns.length : Int) < t.lim.nodes
  all_goals
    go_enter Tryz.func109, Tryz.ntmps109
    go_wp2_with fail
    generalize w.alloc (.cells t.vals.toArray 26) = w1 at *
    go_region_held3 (fun W => Stb w1 W) (first | exact Stb.start | assumption | (exact Stb.alloc (by assumption) _) | (exact Stb.call (by assumption) (by assumption))) (first | (go_at_call 131; refine (free_any t _ HS.out HO.out (hA1.stb (by assumption))).mono ?_; rintro e w2 ⟨rfl, hb⟩) | (go_at_call 132; refine (left_any t uid _ HS.out HO.out (hA1.stb (by assumption))).mono ?_; rintro e w3 ⟨rfl, hb⟩))
    go_wp2
    go_ret
    refine ⟨_, 6, rfl, ints_cast ?_ (ints_new [_, _, _, _, _, _] _ _), hB1.trans ((by assumption : Stb w1 _).below.mono hB1.size), fun p h => ?_⟩
    rotate_left
    · have hst := (by assumption : Stb w1 _).below.size
      injection h with h
      subst h
      simp at hst ⊢
      omega
    simp only [nums]
    repeat' (first | apply And.intro | trivial | rfl | omega)

end

set_option maxRecDepth 20000 in
set_option maxHeartbeats 1600000 in
theorem ask_fsstat_any (t : Tr) (u : Cred) (c : Call) (n : Nd) (w : World) (hsm : small t.ns) (ho : t.lim.ok = true) (hA : At w 15 t.na (t.ns.map Nd.vals)) : Calls Tryz.prog 77 #[.agg (askV t u c n).toArray] w (AskP ⟨fldsZ, [], nums t u.uid⟩ w) := by
  obtain ⟨bA, bR, hB, hs⟩ := chain2_blks w (askV t u c n) replyZ.vals 76 48
  obtain ⟨w1, hw1⟩ : ∃ V, V = (w.alloc (.cells (askV t u c n).toArray 76)).alloc (.cells replyZ.vals.toArray 48) := ⟨_, rfl⟩
  rw [← hw1] at bA bR hB hs
  have hsz := hB.size
  have r6 : rowOf w1 w.heap.size 0 6 = some t.vals.toArray := bA.row 0 6 (by rw [askV_len]; omega)
  have c8 : w1.cell? ⟨w.heap.size, 8, none⟩ = some (.int .i64 u.uid) := bA.cell 8
  have HW1 := Lib.hid hw1
  have K := Lib.hid (numsF_any t u.uid w1 hsm ho (hA.below hB))
  have hlR := bR.lt
  unfold Tr.val at K
  generalize nums t u.uid = l at *
  clear hw1 bA hs hA hsm ho
  go_enter Tryz.func77, Tryz.ntmps77
  go_upto_region 1 with fail
  change Code.wp _ _ _ _ ((w.alloc (.cells (askV t u c n).toArray 76)).alloc (.cells replyZ.vals.toArray 48))
  rw [← HW1.out]
  go_wp2_with fail
  refine K.out.mono ?_
  rintro e w2 ⟨A, cp, rfl, hAt, hb, hF⟩
  replace bR := bR.stays hb
  replace hB := below_then hB hb
  obtain ⟨z, hz⟩ : ∃ z : Reply, z = { replyZ with ua := A, un := l.length, uc := cp } := ⟨_, rfl⟩
  have HR := Lib.hid (retReply22 (z := z) bR hB)
  have HZ := Lib.hid hz
  have HFR := Lib.hid (show FreshR w z from fun p h => by
    rw [hz] at h
    rcases h with h | h
    · cases h
    · exact Nat.le_trans hsz (hF p h))
  have HAt : At w2 1 A (l.map int1) → At (w2.setCells (w.heap.size + 1) 0 z.vals) 1 A (l.map int1) := fun h => h.touch (F := fun k => k = w.heap.size + 1) (Touch.setCells (F := fun k => k = w.heap.size + 1) (g := w.heap.size + 1) (.inl rfl) z.vals 0 w2 (Touch.refl _ _)) (fun b off h hf => by have := hF _ h; simp only at this hf; omega)
  have HAt := Lib.hid (HAt hAt)
  clear hb hz hAt hF hsz
  go_wp2_with (first | (refine wpList_store_whole (by rfl) 48 _ _ (by rfl) (w.heap.size + 1) z.vals _ bR (by rfl) (by rfl) (by rw [HZ.out]; rfl) (by kernel_rfl) (Reply.one _) ?_) | fail)
  refine ret_cells (w.heap.size + 1) 0 z.vals Tryz.results77 Tryz.underlying48 rfl (by kernel_rfl) rfl HR.out.1.range rfl ?_
  refine ⟨z, rfl, by rw [HZ.out]; rfl, ⟨by rw [HZ.out]; rfl, At.nil⟩, ⟨by rw [HZ.out], ?_⟩, HR.out.2, HFR.out⟩
  have := HAt.out
  rw [HZ.out] at this ⊢
  exact this
end Go.Proofs.YtgifmpobokaejaaGreatDoor


/-
  Layer 22, plain: what a directory's list tells. No condition.
-/
namespace Go.Proofs.YtgifmpobokaejaaGreatDoor
open Go.RowKit

/-- an entry, with what is known of its node -/
def fillE (ns : List Nd) (x : Entry) : Entry := if placeOf ns x.gen < 0 then x else { x with attr := postN (nodeAt ns (placeOf ns x.gen)), fh := genText x.gen }
theorem fillE_no {ns : List Nd} {x : Entry} (h : placeOf ns x.gen < 0) : fillE ns x = x := if_pos h
theorem fillE_yes {ns : List Nd} {x : Entry} (h : ¬ placeOf ns x.gen < 0) : fillE ns x = { x with attr := postN (nodeAt ns (placeOf ns x.gen)), fh := genText x.gen } := if_neg h
theorem fillE_gen (ns : List Nd) (x : Entry) : (fillE ns x).gen = x.gen := by
  unfold fillE
  split <;> rfl
/-- the page after i rounds of the loop -/
def fillN (ns : List Nd) (i : Nat) (l : List Entry) : List Entry := (l.take i).map (fillE ns) ++ l.drop i
theorem fillN_zero (ns : List Nd) (l : List Entry) : fillN ns 0 l = l := by simp [fillN]
theorem fillN_all (ns : List Nd) (l : List Entry) : fillN ns l.length l = l.map (fillE ns) := by simp [fillN]
theorem fillN_len (ns : List Nd) (i : Nat) (l : List Entry) : (fillN ns i l).length = l.length := by
  simp only [fillN, List.length_append, List.length_map, List.length_take, List.length_drop]
  omega
theorem fillN_at (ns : List Nd) {i : Nat} {l : List Entry} (h : i < l.length) : (fillN ns i l)[i]? = some l[i] := by
  unfold fillN
  rw [List.getElem?_append_right (by simp; omega)]
  have e : i - ((l.take i).map (fillE ns)).length = 0 := by simp; omega
  rw [e, List.getElem?_drop, Nat.add_zero, List.getElem?_eq_getElem h]
theorem fillN_next (ns : List Nd) {i : Nat} {l : List Entry} (h : i < l.length) : fillN ns (i + 1) l = (fillN ns i l).set i (fillE ns l[i]) := by
  apply List.ext_getElem?
  intro k
  have hk : (fillN ns i l).length = l.length := fillN_len ns i l
  unfold fillN at hk ⊢
  simp only [List.getElem?_set, List.getElem?_append, List.length_map, List.length_take, List.length_append, List.length_drop, List.getElem?_map, List.getElem?_take, List.getElem?_drop]
  by_cases h2 : i = k
  · subst h2
    have hm : i < min (i + 1) l.length := by omega
    have hn : i < i + 1 := by omega
    have hq : i < min i l.length + (l.length - i) := by omega
    simp only [hm, hn, hq, if_true, List.getElem?_eq_getElem h, Option.map_some]
  · by_cases h1 : k < i
    · have hm : k < min (i + 1) l.length := by omega
      have hn : k < i + 1 := by omega
      have hq : k < min i l.length := by omega
      simp only [hm, hn, hq, h1, h2, if_true, if_false]
    · have hm : ¬ k < min (i + 1) l.length := by omega
      have hq : ¬ k < min i l.length := by omega
      simp only [hm, hq, h2, if_false]
      congr 1
      omega
/-- the same, where nothing is filled in if it isn't asked -/
def fillP (plus : Bool) (ns : List Nd) (i : Nat) (l : List Entry) : List Entry := if plus then fillN ns i l else l
theorem fillP_zero (plus : Bool) (ns : List Nd) (l : List Entry) : fillP plus ns 0 l = l := by
  unfold fillP
  split
  · exact fillN_zero ns l
  · rfl
theorem fillP_all (plus : Bool) (ns : List Nd) (l : List Entry) : fillP plus ns l.length l = if plus then l.map (fillE ns) else l := by
  unfold fillP
  split
  · exact fillN_all ns l
  · rfl
theorem fillP_len (plus : Bool) (ns : List Nd) (i : Nat) (l : List Entry) : (fillP plus ns i l).length = l.length := by
  unfold fillP
  split
  · exact fillN_len ns i l
  · rfl
theorem fillP_parts (plus : Bool) (ns : List Nd) {i : Nat} {l : List Entry} (h : i < l.length) : ∃ pre post, pre.length = i ∧ fillP plus ns i l = pre ++ l[i] :: post ∧ (plus = true → fillP plus ns (i + 1) l = pre ++ fillE ns l[i] :: post) := by
  have hl := fillP_len plus ns i l
  have hg : (fillP plus ns i l)[i]? = some l[i] := by
    unfold fillP
    split
    · exact fillN_at ns h
    · exact List.getElem?_eq_getElem h
  have hi : i < (fillP plus ns i l).length := by omega
  have hg2 : (fillP plus ns i l)[i] = l[i] := by
    rw [List.getElem?_eq_getElem hi] at hg
    exact Option.some.inj hg
  refine ⟨(fillP plus ns i l).take i, (fillP plus ns i l).drop (i + 1), by rw [List.length_take]; omega, ?_, fun hp => ?_⟩
  · conv => lhs; rw [← List.take_append_drop i (fillP plus ns i l), ← List.getElem_cons_drop hi, hg2]
  · subst hp
    have e1 : fillP true ns (i + 1) l = (fillP true ns i l).set i (fillE ns l[i]) := fillN_next ns h
    rw [e1, List.set_eq_take_append_cons_drop, if_pos hi]
theorem fillP_no {plus : Bool} {ns : List Nd} {i : Nat} {l : List Entry} (h : i < l.length) (hn : plus = false ∨ placeOf ns l[i].gen < 0) : fillP plus ns (i + 1) l = fillP plus ns i l := by
  cases plus with
  | false => rfl
  | true =>
    rcases hn with hn | hn
    · cases hn
    · have e1 : fillP true ns (i + 1) l = (fillP true ns i l).set i (fillE ns l[i]) := fillN_next ns h
      have e2 : (fillP true ns i l)[i]? = some l[i] := fillN_at ns h
      rw [e1, fillE_no hn]
      apply List.ext_getElem?
      intro k
      rw [List.getElem?_set]
      split
      · next hk =>
        subst hk
        rw [if_pos (by rw [fillP_len]; exact h), e2]
      · rfl

def statD (s : Int) : RepD := ⟨(statR s).bare, [], []⟩
/-- what a directory's list tells -/
def listR (ns : List Nd) (u : Cred) (c : Call) (n : Nd) (es : List Entry) (plus : Bool) : RepD :=
  if n.attr.type ≠ 2 then statD 20
  else if mayB (bitsP n.attr u.uid u.gid) 4 = false then statD 13
  else if c.cookie ≠ 0 ∧ c.verf ≠ n.attr.gen then statD 10003
  else if (pageF es c.cookie (min c.count 1024) (if plus then 96 else 0)).2.2 ≠ 0 then statD (pageF es c.cookie (min c.count 1024) (if plus then 96 else 0)).2.2
  else ⟨{ fldsZ with verf := n.attr.gen, eof := (pageF es c.cookie (min c.count 1024) (if plus then 96 else 0)).2.1 }, if plus then (pageF es c.cookie (min c.count 1024) (if plus then 96 else 0)).1.map (fillE ns) else (pageF es c.cookie (min c.count 1024) (if plus then 96 else 0)).1, []⟩
end Go.Proofs.YtgifmpobokaejaaGreatDoor
