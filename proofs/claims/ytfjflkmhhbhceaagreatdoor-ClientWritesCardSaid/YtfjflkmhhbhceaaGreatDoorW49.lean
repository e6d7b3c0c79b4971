/-
  Layer 33, laws: whatever a client is asked to write, read and close, when it is closed all was written. Conditions: the tables are laid.
-/
import Derived.Test.YtfjflkmhhbhceaaGreatDoorW47
import Derived.Test.YtfjflkmhhbhceaaGreatDoorW35
import Derived.Test.YtfjflkmhhbhceaaGreatDoorW48
import Derived.Deep.CutRange
namespace Go.Proofs.YtfjflkmhhbhceaaGreatDoor
open Go.RowKit
open Go.RowKit
attribute [local go_sem ↓] Go.wp_at_zero Go.wp_at_succ
attribute [local go_sem] rowAt_ptr rowOf_drew rowOf_drewN rowOf_alloc_past rowOf_new
theorem rowV33_byw (x : ByW) : rowV33 3 (.agg x.vals.toArray) = true := rfl
theorem putsW_byw (w : World) (T : TypeId) (b : Nat) (x : ByW) (hb : b = w.heap.size) : putsW (w.alloc (.cells #[.int .u8 0, .int .u16 0, .string ⟨#[]⟩] T)) b 0 x.vals = w.alloc (.cells x.vals.toArray T) := putsW_new w _ T b x.vals hb rfl
section
variable {ρ : Operand → Value} {w : World} {dst : Option Tmp} {ty : TypeId} {pos : String} {after : Array Edge} {g : Option (Nat × Bool)} {x y : Operand}
theorem st33Bytes (hx : ptrAt (ρ x) = true) (hy : rowV33 3 (ρ y) = true) (ht : thereB w (blkAt (ρ x)) (offAt (ρ x)) 3 = true) :
    (execOp ρ ⟨dst, .store 70 x y, ty, pos, after, g⟩).run Tryz.prog w = .ok .skip (putsW w (blkAt (ρ x)) (offAt (ρ x)) (ρ y).cells.toList) := exStore33 (by kernel_rfl) hx hy ht
theorem ld33Bytes (h : (rowAt w 3 (ρ x)).isSome = true) :
    (execOp ρ ⟨dst, .load 70 x, ty, pos, after, g⟩).run Tryz.prog w = .ok (.value (.agg ((rowAt w 3 (ρ x)).getD #[]))) w := ex_load 70 3 Tryz.underlying70 rfl (by kernel_rfl) h
end
attribute [local go_sem ↓] st33Call st33Ask ld33Ask st33Bytes ld33Bytes

attribute [local go_sem] thereB_drew thereB_drewN thereB_new thereB_past putsW_drew putsW_new putsW_past rowOf_far rowOf_putsFar cell_putsFar putsW_size ptrAt blkAt offAt allV33 oneV33 cellsOf_agg

attribute [local go_sem low] rowV33_agg

attribute [local go_sem] putsW_call putsW_byw putsW_ask Call.len Ask.len ByW.len rowV33_call rowV33_ask rowV33_byw

theorem rootL_len : rootL.length ≤ 64 := by decide +kernel
/-- what is asked lies within its bounds -/
structure AskFit (kind : Int) (x : Call) : Prop where
  kind : kind = 2 ∨ kind = 3 ∨ kind = 4
  o0 : 0 ≤ x.offset
  c0 : 0 ≤ x.count
  c1 : x.count ≤ 4294967295
  d : x.data.length ≤ 256
  od : x.offset + x.data.length ≤ 1024
  g : CallG x
theorem AskFit.zero : AskFit 4 callZ := ⟨.inr (.inr rfl), by decide, by decide, by decide, by decide, by decide, callZ_g⟩
theorem AskFit.of {kind o : Int} {t : List UInt8} (hk : kind = 2 ∨ kind = 3 ∨ kind = 4) (h0 : 0 ≤ o) (h1 : o + t.length ≤ 1024) (h2 : t.length ≤ 256) : AskFit kind { callZ with offset := o, count := 9, data := t } :=
  ⟨hk, h0, by show (0 : Int) ≤ 9; decide, by show (9 : Int) ≤ _; decide, h2, h1, ⟨by show o ≤ _; omega, callZ_g.2, callZ_g.3, callZ_g.4, callZ_g.5⟩⟩
/-- what holds between two things that are asked, in memory -/
structure LawW (w1 : World) (g : Nat) (l : List ByW) (k : Nat) (c : ClD) (dg dw : List UInt8) (n1 n2 : Nat) (W : World) : Prop where
  le : k ≤ l.length + 1
  inv : WInv c dg dw n1 n2 k
  good : ClGood c
  since : Since w1 g c W
  lg : dg.length ≤ 1024
  lw : dw.length ≤ 1024
  few : n2 ≤ 256 * k
  end_ : k = l.length + 1 → dg = dw ∧ n1 = n2 ∧ (c.at_ 1).bytes = []
theorem ask_set6 (kind : Int) (x y : Call) : setAt (askW kind x).vals 6 y.vals = (askW kind y).vals := by
  have h := setAt_mid y.vals x.vals [.int .i64 kind, .int .i64 1, .int .i64 0, .int .i64 0, .int .i64 0, .int .i64 0] [] (by rw [Call.len, Call.len])
  simpa [askW, Ask.vals] using h
theorem setCell33 {B : Nat} {a w : World} (h : Below B a w) {b o : Nat} (v : Value) (hb : B ≤ b) : Below B a (w.setCell ⟨b, o, none⟩ v) := Below.setCells hb [v] o w h
set_option maxRecDepth 20000 in
set_option maxHeartbeats 6400000 in
theorem clientWritesLaw_any (A : Option Addr) (cap : Nat) (l : List ByW) (w : World) (hl : l.length ≤ 9223372036854775807) (hA : At w 3 A (l.map ByW.vals)) (hg : ∀ x ∈ l, ByG x) (hL : TabLaid w) :
    Calls Tryz.prog 4 #[.slice A l.length cap] w fun e w' => e = .returned (.bool true) ∧ Below w.heap.size w w' := by
  have HA := Lib.hid hA
  have HG := Lib.hid hg
  have HL := Lib.hid hL
  have KL := Lib.hid (refLong33_any A cap l w hl hA hg)
  clear hA hg hL
  go_enter Tryz.func4, Tryz.ntmps4
  go_wp2_with fail
  refine KL.out.mono ?_
  rintro e w1 ⟨b, rfl, hf, hb1⟩
  have HB1 := Lib.hid hb1
  have HL1 := Lib.hid (HL.out.below hb1)
  have HA1 := Lib.hid (HA.out.below hb1)
  clear hb1 KL HL HA
  cases b
  case true =>
    go_wp2_with fail
    refine (known33_any w1 HL1.out).mono ?_
    rintro e w2 ⟨rfl, hb2⟩
    go_wp2
    go_ret
    exact ⟨rfl, below_then HB1.out hb2⟩
  obtain ⟨h40, hfew⟩ := hf rfl
  have HFew := Lib.hid hfew
  have K0 := Lib.hid (new33_any 1 5 1 w1 (by decide))
  clear hf hfew
  go_wp2_with fail
  refine K0.out.mono ?_
  rintro e w2 ⟨g, rfl, hge, hlt, hC, hb2⟩
  have HS0 := Lib.hid (show LawW w1 g l 0 (clNew 1 5 1 rootL) [] [] 0 0 w2 from ⟨Nat.zero_le _, WInv.new rootL rootL_len, ClGood.new 1 5 1 rootL, ⟨_, _, _, hC, fun k hk => by subst hk; exact hge, hb2⟩, Nat.zero_le _, Nat.zero_le _, Nat.zero_le _, fun h => by cases h⟩)
  clear hC hb2 hge hlt K0
  go_wp2
  go_loopw [5, 6, 7, 8, 9] (fun gv wv nv av iv wr => ∃ (k : Nat) (c : ClD) (dg dw : List UInt8) (n1 n2 : Nat), iv = .int .i64 (k : Int) ∧ gv = .string (bs dg) ∧ wv = .string (bs dw) ∧ nv = .int .i64 (n1 : Int) ∧ av = .int .i64 (n2 : Int) ∧ LawW w1 g l k c dg dw n1 n2 wr) (fun _ _ _ _ iv _ => l.length + 1 - (intOf iv).toNat)
  case atStart => exact ⟨0, _, [], [], 0, 0, rfl, rfl, rfl, rfl, rfl, HS0.out⟩
  case round =>
    obtain ⟨k, c, dg, dw, n1, n2, rfl, rfl, rfl, rfl, rfl, hW⟩ := hrel
    have hk0 : (0 : Int) ≤ (k : Int) := Int.natCast_nonneg _
    have hk1 := hW.le
    have hkw : IntKind.i64.wrap ((k : Int) + 1) = ((k + 1 : Nat) : Int) := by rw [IntWalk.i64_in _ (by omega)]; omega
    have HW := Lib.hid hW
    clear hW HS0
    by_cases hkl : k ≤ l.length
    · have hkl1 : (k : Int) ≤ (l.length : Int) := by omega
      have bQ := Blk.new wr 38 (askW 4 callZ).vals
      have hb5 : Below wr.heap.size wr (wr.alloc (.cells (askW 4 callZ).vals.toArray 38)) := (Below.refl _ _).alloc (Nat.le_refl _) _
      obtain ⟨w5, hw5⟩ : ∃ V, V = wr.alloc (.cells (askW 4 callZ).vals.toArray 38) := ⟨_, rfl⟩
      rw [← hw5] at bQ hb5
      have HW5 := Lib.hid hw5
      have HB5 := Lib.hid hb5
      have HQ := Lib.hid bQ
      have HS5 := Lib.hid (HW.out.since.below hb5)
      have hq5 : wr.heap.size < w5.heap.size := bQ.lt
      clear hw5 bQ hb5
      go_upto_region 10 with fail
      change Code.wp _ _ _ _ (wr.alloc (.cells (askW 4 callZ).vals.toArray 38))
      rw [← HW5.out]
      go_upto_if 34 with fail
      generalize hbl : decide (k < l.length) = bl at *
      go_cut [6, 8, 11] from 35 to 72 (fun v6 v8 v11 wx => ∃ (kind : Int) (x : Call), v6 = .string (bs (wantW dw kind x)) ∧ v8 = .int .i64 ((moreW n2 kind x : Nat) : Int) ∧ Blk wx wr.heap.size 38 (askW kind x).vals ∧ Below wr.heap.size wr wx ∧ AskFit kind x ∧ (k = l.length → kind = 4))
      case first =>
        cases bl
        case false =>
          have HF := Lib.hid (And.intro HQ.out HB5.out)
          clear hbl
          go_wp2
          go_meet
          case rel => exact ⟨4, callZ, rfl, rfl, HF.out.1, HF.out.2, AskFit.zero, fun _ => rfl⟩
        case true =>
          have hlt : k < l.length := of_decide_eq_true hbl
          obtain ⟨b1, o1, hna, hbb1, rB, -⟩ := rowCell8 ByW.len (by decide) (HA1.out.below (show Below w1.heap.size w1 w5 by obtain ⟨_, _, _, _, _, h⟩ := HS5.out; exact h)) hlt
          have hgx := HG.out _ (List.getElem_mem hlt)
          have hfx := HFew.out _ (List.getElem_mem hlt)
          generalize l[k] = x at *
          subst hna
          have hkl2 : (k : Int) < (l.length : Int) := by omega
          have bY := Blk.new w5 70 x.vals
          have hb6 : Below w5.heap.size w5 (w5.alloc (.cells x.vals.toArray 70)) := (Below.refl _ _).alloc (Nat.le_refl _) _
          obtain ⟨w6, hw6⟩ : ∃ V, V = w5.alloc (.cells x.vals.toArray 70) := ⟨_, rfl⟩
          rw [← hw6] at bY hb6
          have HW6 := Lib.hid hw6
          have HY := Lib.hid bY
          have HQ6 := Lib.hid (HQ.out.stays hb6)
          have HB6 := Lib.hid (below_then HB5.out hb6)
          have x1 : w6.cell? ⟨w5.heap.size, 1, none⟩ = some (.int .u16 x.at_) := bY.cell 1
          have tQ := HQ6.out.thereB 6 24 (by rw [Ask.len]; decide)
          have hat := hgx.at_
          have hm0 : 0 ≤ x.at_ % 1024 := Int.emod_nonneg _ (by decide)
          have hm1 : x.at_ % 1024 < 1024 := Int.emod_lt_of_pos _ (by decide)
          have htm : x.at_.tmod 1024 = x.at_ % 1024 := Int.tmod_eq_emod_of_nonneg hat.1
          have hu16 : IntKind.u16.wrap (x.at_ % 1024) = x.at_ % 1024 := by simp [IntKind.wrap, IntKind.bits, IntKind.signed]; omega
          have hi64 : IntKind.i64.wrap (x.at_ % 1024) = x.at_ % 1024 := IntWalk.i64_in _ (by omega)
          have hne56 : wr.heap.size ≠ w5.heap.size := by omega
          clear hw6 bY hb6 hbl
          go_upto_region 12 with fail
          change Code.wp _ _ _ _ (w5.alloc (.cells x.vals.toArray 70))
          rw [← HW6.out]
          obtain ⟨o, ho⟩ : ∃ o, o = x.at_ % 1024 := ⟨_, rfl⟩
          rw [← ho] at hm0 hm1
          obtain ⟨w7, hw7⟩ : ∃ V, V = putsW w6 wr.heap.size 6 ({ callZ with offset := o, count := 9 } : Call).vals := ⟨_, rfl⟩
          have hQ7 := HQ6.out.puts 6 ({ callZ with offset := o, count := 9 } : Call).vals
          rw [ask_set6, ← hw7] at hQ7
          have hY7 := HY.out.putsFar (b := wr.heap.size) (o := 6) (vs := ({ callZ with offset := o, count := 9 } : Call).vals) (Ne.symm hne56)
          rw [← hw7] at hY7
          have hB7 : Below wr.heap.size wr w7 := by rw [hw7]; exact Below.puts33 (Nat.le_refl _) HB6.out
          have hfx2 := hfx.2
          rw [← ho] at hfx2
          have HFit := Lib.hid (fun (kind : Int) (t : List UInt8) (h : kind = 2 ∨ kind = 3 ∨ kind = 4) (h1 : o + t.length ≤ 1024) (h2 : t.length ≤ 256) => AskFit.of h hm0 h1 h2)
          have HW7 := Lib.hid hw7
          have HO := Lib.hid ho
          clear hw7 ho
          go_upto_region 13 with fail
          change Code.wp _ _ _ _ (putsW w6 wr.heap.size 6 ({ callZ with offset := x.at_ % 1024, count := 9 } : Call).vals)
          rw [← HO.out, ← HW7.out]
          clear htm hu16 hi64
          have HQ7 := Lib.hid hQ7
          have HB7 := Lib.hid hB7
          have HY7 := Lib.hid hY7
          have y0 : w7.cell? ⟨w5.heap.size, 0, none⟩ = some (.int .u8 x.kind) := hY7.cell 0
          have y2 : w7.cell? ⟨w5.heap.size, 2, none⟩ = some (.string (bs x.s)) := hY7.cell 2
          have q0 : w7.cell? ⟨wr.heap.size, 0, none⟩ = some (.int .i64 4) := hQ7.cell 0
          have q11 : w7.cell? ⟨wr.heap.size, 11, none⟩ = some (.int .i64 o) := hQ7.cell 11
          have q14 : w7.cell? ⟨wr.heap.size, 14, none⟩ = some (.string (bs [])) := hQ7.cell 14
          have fr := hQ7.frozen
          have hkk := hgx.kind
          obtain ⟨r, hr⟩ : ∃ r, r = x.kind % 4 := ⟨_, rfl⟩
          have htm4 : x.kind.tmod 4 = r := by rw [hr]; exact Int.tmod_eq_emod_of_nonneg hkk.1
          have hr4 : r = 0 ∨ r = 1 ∨ r = 2 ∨ r = 3 := by omega
          have hu8 : IntKind.u8.wrap r = r := by simp [IntKind.wrap, IntKind.bits, IntKind.signed]; omega
          have zs := bs_size x.s
          have hno : ¬ k = l.length := by omega
          clear hr hkk hQ7 hB7 hY7 x1 tQ HW6 HY HQ6 HB6 HW7 hat
          rcases hr4 with rfl | rfl | rfl | rfl
          case inl =>
            go_wp2
            go_meet
            case rel => exact ⟨2, { callZ with offset := o, count := 9 }, rfl, rfl, HQ7.out.set_ 0 (.int .i64 2), setCell33 HB7.out _ (Nat.le_refl _), HFit.out 2 [] (.inl rfl) (by show o + 0 ≤ 1024; omega) (Nat.zero_le _), fun h => absurd h hno⟩
          case inr.inl =>
            go_wp2
            go_meet
            case rel => exact ⟨4, { callZ with offset := o, count := 9 }, rfl, rfl, HQ7.out, HB7.out, HFit.out 4 [] (.inr (.inr rfl)) (by show o + 0 ≤ 1024; omega) (Nat.zero_le _), fun h => absurd h hno⟩
          all_goals
            have hlw := HW.out.lw
            have hfd := hfx.1
            have hfew := HW.out.few
            obtain ⟨w8, hw8⟩ : ∃ V, V = (w7.setCell ⟨wr.heap.size, 0, none⟩ (.int .i64 3)).setCell ⟨wr.heap.size, 14, none⟩ (.string (bs x.s)) := ⟨_, rfl⟩
            have hQ8 := (HQ7.out.set_ 0 (.int .i64 3)).set_ 14 (.string (bs x.s))
            rw [← hw8] at hQ8
            have hB8 : Below wr.heap.size wr w8 := by rw [hw8]; exact setCell33 (setCell33 HB7.out _ (Nat.le_refl _)) _ (Nat.le_refl _)
            have hY8 := (HY7.out.far (p := ⟨wr.heap.size, 0, none⟩) (Ne.symm hne56) (.int .i64 3)).far (p := ⟨wr.heap.size, 14, none⟩) (Ne.symm hne56) (.string (bs x.s))
            rw [← hw8] at hY8
            have HW8 := Lib.hid hw8
            clear hw8
            go_upto_region 16 with fail
            change Code.wp _ _ _ _ ((w7.setCell ⟨wr.heap.size, 0, none⟩ (.int .i64 3)).setCell ⟨wr.heap.size, 14, none⟩ (.string (bs x.s)))
            rw [← HW8.out]
            have p2 : w8.cell? ⟨w5.heap.size, 2, none⟩ = some (.string (bs x.s)) := hY8.cell 2
            have p11 : w8.cell? ⟨wr.heap.size, 11, none⟩ = some (.int .i64 o) := hQ8.cell 11
            have hl8 : w5.heap.size < w8.heap.size := hY8.lt
            have KW := Lib.hid (fun W => refWrite_any dw o x.s W (by omega) (by omega) (by omega))
            have hnw : IntKind.i64.wrap ((n2 : Int) + ((x.s.length : Nat) : Int)) = ((n2 + x.s.length : Nat) : Int) := by rw [IntWalk.i64_in _ (by omega)]; omega
            have HQ8 := Lib.hid hQ8
            have HB8 := Lib.hid hB8
            clear y0 y2 q0 q11 q14 fr HW8 hQ8 hB8 hY8
            go_wp2_with fail
            refine (KW.out _).mono ?_
            rintro e w9 ⟨rfl, hb9⟩
            have p2' := (hb9.cell (p := ⟨w5.heap.size, 2, none⟩) hl8).trans p2
            have HB9 := Lib.hid hb9
            clear p2 p11 hb9
            go_wp2
            go_meet
            case rel => exact ⟨3, { callZ with offset := o, count := 9, data := x.s }, rfl, by show _ = Value.int .i64 ((n2 + x.s.length : Nat) : Int); rw [Int.natCast_add], HQ8.out.stays HB9.out, below_then HB8.out HB9.out, HFit.out 3 x.s (.inr (.inl rfl)) hfx2 hfd, fun h => absurd h hno⟩
      case rest =>
      obtain ⟨kind, x, rfl, rfl, bQ, hB8, hFit, hlast⟩ := hcut
      have rQ : rowOf wc wr.heap.size 0 30 = some (askW kind x).vals.toArray := bQ.row 0 30 (by rw [Ask.len]; decide)
      have hrl : c.recs.length ≤ 1000000 := by
        have h1 := HW.out.good.made
        have h2 := HW.out.inv.made
        omega
      have hk100 : k ≤ 100 := by omega
      have hs1 : (1 : Int) ≤ ((k + 1 : Nat) : Int) := by omega
      have KA := Lib.hid ((HW.out.since.below hB8).ask HL1.out HW.out.good hrl (askW kind x) hFit.g ((k + 1 : Nat) : Int) 0)
      have hAs := asked0_any HW.out.inv HW.out.good hk100 x hFit.kind hFit.o0 hFit.c0 hFit.c1 hFit.d hFit.od hFit.g ((k + 1 : Nat) : Int) hs1
      have hst : (c.ask (askW kind x) ((k + 1 : Nat) : Int) 0).2.2 = 0 ∧ ∃ c' got' n, answeredC rdW anW 6 (c.ask (askW kind x) ((k + 1 : Nat) : Int) 0).1 (c.ask (askW kind x) ((k + 1 : Nat) : Int) 0).2.1 dg 0 = (c', got', n, true) ∧ WInv c' got' (wantW dw kind x) (n1 + n) (moreW n2 kind x) (k + 1) ∧ (k = l.length → got' = wantW dw kind x ∧ n1 + n = moreW n2 kind x ∧ (c'.at_ 1).bytes = []) := by
        by_cases hkl2 : k = l.length
        · obtain rfl := hlast hkl2
          obtain ⟨h1, c', h2, h3, h4⟩ := step_quiet faithW HW.out.inv hk100 x (kind := 4) (.inr rfl) hFit.o0 (by have := hFit.od; omega) hFit.c0 hFit.c1 ((k + 1 : Nat) : Int) hs1
          have hc := HW.out.inv.cnt
          have e : n1 + (n2 - n1) = n2 := by omega
          refine ⟨h1, c', dw, n2 - n1, h2, ?_, fun _ => ⟨rfl, e, h4⟩⟩
          rw [e]
          exact h3
        · obtain ⟨h1, c', got', n, h2, h3⟩ := step_any faithW HW.out.inv hk100 x hFit.kind hFit.o0 hFit.c0 hFit.c1 hFit.d hFit.od ((k + 1 : Nat) : Int) hs1
          exact ⟨h1, c', got', n, h2, h3, fun h => absurd h hkl2⟩
      have hwl : (wantW dw kind x).length ≤ 1024 := by
        unfold wantW
        split
        · exact nWrite_le _ _ HW.out.lw
        · exact HW.out.lw
      have hmf : moreW n2 kind x ≤ 256 * (k + 1) := by
        unfold moreW
        have := HW.out.few
        have := hFit.d
        split <;> omega
      obtain ⟨hcode, c', got', n, hans, hinv, hend⟩ := hst
      generalize wantW dw kind x = dw2 at *
      generalize moreW n2 kind x = m2 at *
      generalize hra : c.ask (askW kind x) ((k + 1 : Nat) : Int) 0 = ra at *
      obtain ⟨ca, outa, coda⟩ := ra
      simp only at hcode hans hAs KA
      subst hcode
      have HN := Lib.hid (And.intro hAs (And.intro hans (And.intro hinv (And.intro hend (And.intro hwl hmf)))))
      have hlg := HW.out.lg
      clear hra hAs hans hinv hend hwl hmf bQ hB8 hFit hlast HQ HS5 HB5 HW5
      go_wp2_with fail
      refine KA.out.mono ?_
      rintro e w9 ⟨A2, cap2, rfl, hrow, hS9, -⟩
      have KN := Lib.hid (answered33_any w1 w9 g ca outa A2 cap2 dg hS9 HL1.out HN.out.1 hrow.rows hlg)
      rw [HN.out.2.1] at KN
      clear hrow hS9 KA rQ
      go_wp2_with fail
      refine KN.out.mono ?_
      rintro e w10 ⟨rfl, hS10, hG10, hl10⟩
      simp only at hS10 hG10 hl10
      have KBu : Calls Tryz.prog 16 #[.pointer (some ⟨g, 0, none⟩)] w10 fun e w' => e = .returned (.bool false) ∧ w' = w10 := by
        obtain ⟨F, z, lr, h1, -, -⟩ := hS10
        have h2 := busy33_any F w10 g c' z lr h1
        rw [HN.out.2.2.1.idle] at h2
        exact h2
      have hcn := HN.out.2.2.1.cnt
      have hfw := HN.out.2.2.2.2.2
      have hnw : IntKind.i64.wrap ((n1 : Int) + (n : Int)) = ((n1 + n : Nat) : Int) := by rw [IntWalk.i64_in _ (by omega)]; omega
      have HF := Lib.hid (show LawW w1 g l (k + 1) c' got' dw2 (n1 + n) m2 w10 from ⟨by omega, HN.out.2.2.1, hG10, hS10, hl10, HN.out.2.2.2.2.1, HN.out.2.2.2.2.2, fun h => HN.out.2.2.2.1 (by omega)⟩)
      replace KBu := Lib.hid KBu
      clear hS10 hG10 hl10 hcn hfw KN HN
      go_wp2_with (first
        | (go_at_call 16; refine KBu.out.mono ?_; rintro e wt ⟨rfl, hwt⟩; rw [hwt]; clear hwt)
        | fail)
      go_roundw
      case rel => exact ⟨k + 1, c', got', dw2, n1 + n, m2, by go_num, rfl, rfl, by go_num, rfl, HF.out⟩
      case measure => simp [intOf]; omega
    · obtain ⟨h1, h2, h3⟩ := HW.out.end_ (by omega)
      have hkl1 : ¬ (k : Int) ≤ (l.length : Int) := by omega
      subst h1 h2
      have hB : Below w1.heap.size w1 wr := by obtain ⟨_, _, _, _, _, h⟩ := HW.out.since; exact h
      have KWt : Calls Tryz.prog 20 #[.pointer (some ⟨g, 0, none⟩), .int .i64 1] wr fun e w' => e = .returned (.int .i64 0) ∧ Below wr.heap.size wr w' := by
        obtain ⟨F, z, lr, h4, -, -⟩ := HW.out.since
        have h5 := waits33_any F wr g c z lr h4 1 (by decide)
        have h6 : c.at_ ((1 : Nat) : Int) = c.at_ 1 := rfl
        rw [h6, h3] at h5
        exact h5
      replace KWt := Lib.hid KWt
      have HB := Lib.hid (below_then HB1.out hB)
      have HLr := Lib.hid (fun W (h : Below wr.heap.size wr W) => HL1.out.below (below_then hB h))
      clear hB h3
      go_wp2_with fail
      refine KWt.out.mono ?_
      rintro e w9 ⟨rfl, hb9⟩
      have HB9 := Lib.hid (below_then HB.out hb9)
      have HK := Lib.hid (known33_any w9 (HLr.out _ hb9))
      clear hb9
      go_wp2_with (first
        | (go_at_call 7; refine HK.out.mono ?_; rintro e w10 ⟨rfl, hb10⟩)
        | fail)
      go_ret
      exact ⟨rfl, below_then HB9.out hb10⟩
end Go.Proofs.YtfjflkmhhbhceaaGreatDoor
