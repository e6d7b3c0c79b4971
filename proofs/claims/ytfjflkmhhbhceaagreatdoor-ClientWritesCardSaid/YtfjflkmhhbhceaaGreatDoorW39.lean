/-
  Layer 33, walks: something comes (printed by wip/tools/gentake33.py). Condition: numbers within their bounds.
-/
import Derived.Test.YtfjflkmhhbhceaaGreatDoorW36
import Derived.Test.YtfjflkmhhbhceaaGreatDoorW35
import Derived.Test.YtfjflkmhhbhceaaGreatDoorW38
namespace Go.Proofs.YtfjflkmhhbhceaaGreatDoor
open Go.RowKit
open Go.RowKit
attribute [local go_sem ↓] Go.wp_at_zero Go.wp_at_succ
attribute [local go_sem] rowAt_ptr rowOf_drew rowOf_drewN rowOf_alloc_past rowOf_new
attribute [local go_sem ↓] st33Message st33Reply ld33Message ld33Reply ld33Packet

attribute [local go_sem] thereB_drew thereB_drewN thereB_new thereB_past putsW_drew putsW_new putsW_past rowOf_far rowOf_putsFar cell_putsFar cell_putsBelow frozen_puts thereB_puts thereB_set putsW_size ptrAt blkAt offAt allV33 oneV33 cellsOf_agg

attribute [local go_sem low] rowV33_agg

attribute [local go_sem] Reply.len Message.len rowV33_reply rowV33_message putsW_message

/-- what is done with results that came -/
def ClD.took (c : ClD) (d : RepD) (step now : Int) : ClD × List Packet :=
  if d.f.status ≠ 0 then ({ c with recs := lastSet c.recs step (toldC d), busy := false, parts := [] }, [])
  else (if c.now.put ≠ -1 ∧ d.f.fh ≠ [] ∧ d.f.obj.is = true then ({ c with recs := lastSet c.recs step (toldC d), busy := false } : ClD).put_ c.now.put { c.at_ c.now.put with handle := d.f.fh, gen := d.f.obj.attr.gen } else { c with recs := lastSet c.recs step (toldC d), busy := false }).next step now
theorem NextP.lift {F G : Nat → Prop} {g : Nat} {c : ClD} {out : List Packet} {w W : World} (ht : Touch F w W) (hG : ∀ k, G k → F k ∨ w.heap.size ≤ k) {e : Ending} {w' : World} (h : NextP G g c out W e w') : NextP F g c out w e w' := by
  obtain ⟨v, rfl, hR, ⟨H, z, l, hC, hH⟩, hT⟩ := h
  refine ⟨v, rfl, hR.base ht.size, ⟨H, z, l, hC, fun k hk => ?_⟩, ht.trans hT fun k hk hg => ?_⟩
  · rcases hH k hk with h | h
    · exact hG k h
    · exact .inr (Nat.le_trans ht.size h)
  · rcases hG k hg with h | h
    · exact h
    · omega
/-- a function's code from an 'if' on, whose condition a region reckons -/
def codeIf33 (n : Nat) : Code → Code
  | .seq a b => match a with
    | .seq (.region m _ _) _ => if m = n then .seq a b else codeIf33 n b
    | _ => codeIf33 n b
  | c => c
set_option maxRecDepth 20000 in
set_option maxHeartbeats 10000000 in
theorem take33_t9 (F : Nat → Prop) (w W : World) (g br : Nat) (c : ClD) (z : Clnt) (l : List Recd) (step now : Int) (r : Reply) (d : RepD) (R : ClD × List Packet) (hR : R = c.took d step now) (hC : ClAt F W g c z l) (ht : Touch F w W) (bR : Blk W br 51 r.vals) (hr : RepAt W (fun k => w.heap.size ≤ k) r d) (hd : RepSmall d) (hG : ClGood c) (hL : LaidF F w) (hrl : c.recs.length ≤ 1000000) (hbu : c.busy = true) (hne : c.recs ≠ []) (htm : timedC now = true) (y1 y4 y5 y6 y7 y8 y9 y12 y13 y14 y15 y16 y17 y18 y19 y20 y21 y22 y23 y24 y25 y26 y27 y28 y29 y30 y31 y32 y33 y34 y35 y36 y37 y38 y39 y40 y41 y42 y43 y44 y45 y46 y47 y48 y49 y50 y51 y52 y53 y54 y55 y56 y57 y58 y59 y60 y61 y62 y63 y64 y65 y66 y67 y68 y69 y70 y71 y72 y73 y74 y75 y76 y77 y78 y79 y80 y81 y82 y83 y84 y85 y86 y87 y88 y89 y90 y91 y92 y93 y94 y95 y96 y97 y98 y99 y100 y101 y102 y103 y104 y105 y106 y107 y108 y109 y110 y111 y112 y113 y114 y115 y116 y117 y118 y119 y120 y121 y122 y123 y124 y125 y126 y127 y128 y129 y130 y131 y132 y133 y134 y135 y136 y137 y138 y139 y140 y141 y142 y143 y144 y145 y146 y147 y148 y149 y150 y151 y152 y153 y154 y155 y156 y157 y158 y159 : Value) :
    Code.wp Tryz.prog (codeIf33 7 (Tryz.f13.body.getD .ret)) (bodyPost Tryz.prog Tryz.f13 (NextP F g R.1 R.2 w)) ⟨#[.pointer (some ⟨g, 0, none⟩), y1, .int .i64 step, .int .i64 now, y4, y5, y6, y7, y8, y9, .int .i64 0, .pointer (some ⟨br, 0, none⟩), y12, y13, y14, y15, y16, y17, y18, y19, y20, y21, y22, y23, y24, y25, y26, y27, y28, y29, y30, y31, y32, y33, y34, y35, y36, y37, y38, y39, y40, y41, y42, y43, y44, y45, y46, y47, y48, y49, y50, y51, y52, y53, y54, y55, y56, y57, y58, y59, y60, y61, y62, y63, y64, y65, y66, y67, y68, y69, y70, y71, y72, y73, y74, y75, y76, y77, y78, y79, y80, y81, y82, y83, y84, y85, y86, y87, y88, y89, y90, y91, y92, y93, y94, y95, y96, y97, y98, y99, y100, y101, y102, y103, y104, y105, y106, y107, y108, y109, y110, y111, y112, y113, y114, y115, y116, y117, y118, y119, y120, y121, y122, y123, y124, y125, y126, y127, y128, y129, y130, y131, y132, y133, y134, y135, y136, y137, y138, y139, y140, y141, y142, y143, y144, y145, y146, y147, y148, y149, y150, y151, y152, y153, y154, y155, y156, y157, y158, y159], []⟩ W := by
  subst hR
  change Code.wp _ (Code.seq (Code.seq (Code.region 7 _ _) _) _) _ _ _
  obtain ⟨b, m, hra, hrn, hlm, hFb, hbg, t5, t30, ⟨v5, c5⟩, f5, -, hby⟩ := hC.last hne
  have c55 : W.cell? ⟨g, 55, none⟩ = some (.slice (some ⟨b, 0, none⟩) (m + 1) z.rc) := by
    rw [hC.blk.cell 55, ← hra, ← hrn]; rfl
  have hm9 : m + 1 ≤ 1000000 := by omega
  have hwr : IntKind.i64.wrap (((m : Int) + 1) - 1) = (m : Int) := by rw [IntWalk.i64_in _ (by omega)]; omega
  have hwr2 : IntKind.i64.wrap (m : Int) = (m : Int) := IntWalk.i64_in _ (by omega)
  have hm0 : (0 : Int) ≤ (m : Int) := by omega
  have hm1 : (m : Int) < (m : Int) + 1 := by omega
  have hbr : br ≠ b := fun e => by
    subst e
    exact absurd (ty_one bR hby) (by decide)
  have hbrg : br ≠ g := fun e => by
    subst e
    exact absurd (bR.ne_ hC.blk (by decide)) (fun h => h rfl)
  have HC := Lib.hid hC
  have HBR := Lib.hid bR
  have HR := Lib.hid hr
  have H5 := Lib.hid (And.intro t5 (And.intro t30 (And.intro c5 f5)))
  clear hC bR hr t5 t30 c5 f5
  go_upto_region 9 with fail
  go_region
  obtain ⟨W1, hW1⟩ : ∃ V, V = W.drew := ⟨_, rfl⟩
  rw [← hW1]
  have hb1 : Below W.heap.size W W1 := by rw [hW1]; exact (Below.refl _ _).drew
  have hs1 : W1.heap.size = W.heap.size := by rw [hW1]; rfl
  have hr1 := HR.out.away (Touch.of_below hb1 (fun _ => False)) (fun _ _ h => h)
  have ht1 := ht.then_ (Touch.of_below hb1 F)
  have hC1 := HC.out.below hb1
  have bR1 := HBR.out.stays hb1
  have hob : r.obj = d.f.obj := congrArg Flds.obj HR.out.bare
  have KT := Lib.hid (told33_any ⟨r, d.es, d.us⟩ W1 hr1.there hr1.le hr1.lu (by show r.obj.attr.gen ≤ _; rw [hob]; exact hd.obj) hd.gens (hL.look ht1))
  have rR : rowOf W1 br 0 58 = some r.vals.toArray := bR1.row 0 58 (by rw [Reply.len]; decide)
  have H5b := Lib.hid (show thereB W1 b (m * 88 + 30) 58 = true ∧ W1.cell? ⟨b, m * 88 + 5, none⟩ = some v5 ∧ W1.frozen? ⟨b, m * 88 + 5, none⟩ = false from by rw [hW1]; exact ⟨H5.out.2.1, H5.out.2.2.1, H5.out.2.2.2⟩)
  have hbW : b < W1.heap.size := hC1.lt b hFb
  have HC1 := Lib.hid hC1
  have HBR1 := Lib.hid bR1
  have HT1 := Lib.hid ht1
  have HBare := Lib.hid hr1.bare
  clear hW1 hb1 hr1 ht1 hC1 bR1 hob HC HBR HR H5 c55
  go_wp2_with fail
  refine KT.out.mono ?_
  rintro e W2 ⟨r2, rfl, hr2, hb2⟩
  have t30 := thereB_stays H5b.out.1 hb2
  have c5 := (hb2.cell (p := ⟨b, m * 88 + 5, none⟩) hbW).trans H5b.out.2.1
  have f5 := (hb2.frozen (p := ⟨b, m * 88 + 5, none⟩) hbW).trans H5b.out.2.2
  have HR2 := Lib.hid hr2
  have HB2 := Lib.hid hb2
  clear hb2 hr2 rR KT
  go_upto_region 11 with fail
  obtain ⟨V1, hV1⟩ : ∃ V, V = putsW (W2.setCell ⟨b, m * 88 + 5, none⟩ (.int .i64 step)) b (m * 88 + 30) r2.vals := ⟨_, rfl⟩
  rw [← hV1]
  have hdd : (⟨r.bare, d.es, d.us⟩ : RepD) = d := by rw [HBare.out]
  have hwW : w.heap.size ≤ W1.heap.size := HT1.out.size
  have hr2 : RepAt W2 (fun k => w.heap.size ≤ k) r2 (toldC d) := by
    have h := HR2.out.mono (G := fun k => w.heap.size ≤ k) (fun k (hk : W1.heap.size ≤ k) => Nat.le_trans hwW hk)
    rw [hdd] at h
    exact h
  obtain ⟨⟨l2, hC3⟩, hT3⟩ := (HC1.out.below HB2.out).lastPut hra hlm r2 (toldC d) hr2 step hV1
  have hTV1 : Touch F w V1 := (HT1.out.then_ (Touch.of_below HB2.out F)).then_ (hT3.mono fun k _ hk => by subst hk; exact hFb)
  have hs3 := hT3.size
  have hs2 := HB2.out.size
  have bR3 := (HBR1.out.stays HB2.out).touch hT3 hbr
  have v49 : V1.cell? ⟨g, 49, none⟩ = some (.bool z.busy) := hC3.blk.cell 49
  have fr1 := hC3.blk.frozen
  have HC3 := Lib.hid hC3
  have HTV1 := Lib.hid hTV1
  have HBR3 := Lib.hid bR3
  clear hV1 hdd hr2 hC3 hT3 hTV1 bR3 t30 c5 f5
  go_upto_region 12 with fail
  obtain ⟨V2, hV2⟩ : ∃ V, V = V1.setCell ⟨g, 49, none⟩ (.bool false) := ⟨_, rfl⟩
  rw [← hV2]
  have hT4 : Touch (fun k => k = g) V1 V2 := by rw [hV2]; exact (Touch.refl (fun k => k = g) V1).setCell (p := ⟨g, 49, none⟩) (.inl rfl) _
  have hb4 := HC3.out.blk.set_ 49 (.bool false)
  rw [clnt_set49, ← hV2] at hb4
  have i3 := HC3.out.is
  obtain ⟨c1, hc1⟩ : ∃ x, x = ({ c with recs := lastSet c.recs step (toldC d), busy := false } : ClD) := ⟨_, rfl⟩
  obtain ⟨z1, hz1⟩ : ∃ x, x = ({ z with busy := false } : Clnt) := ⟨_, rfl⟩
  obtain ⟨G, hGd⟩ : ∃ G : Nat → Prop, G = fun k => F k ∨ (w.heap.size ≤ k ∧ k < W2.heap.size) := ⟨_, rfl⟩
  have hC4 := HC3.out.own hT4 hb4 (c' := { c with recs := lastSet c.recs step (toldC d), busy := false }) ⟨i3.id, i3.self, i3.server, i3.ps, i3.now, rfl, i3.sent, i3.due, i3.made⟩ rfl rfl rfl rfl rfl rfl rfl rfl
  rw [← hc1, ← hz1, ← hGd] at hC4
  have bR4 := HBR3.out.touch hT4 hbrg
  have hTV2 : Touch F w V2 := HTV1.out.then_ (hT4.mono fun k _ hk => by subst hk; exact HC1.out.fg)
  have hGF : ∀ k, G k → F k ∨ w.heap.size ≤ k := fun k hk => by
    rw [hGd] at hk
    exact hk.imp id fun h => h.1
  have hGg : G g := by rw [hGd]; exact .inl HC1.out.fg
  have hs4 := hT4.size
  have hL4 : LaidF G V2 := by
    obtain ⟨w0, e1, e2, e3⟩ := hL
    refine ⟨w0, e1, e2.trans (hTV2.below (fun k _ hk => e3 k hk) e2.size), fun k hk => ?_⟩
    rw [hGd] at hk
    exact hk.elim (e3 k) fun h => Nat.le_trans e2.size h.1
  have hG4 : ClGood c1 := by
    rw [hc1]
    exact ⟨hG.len, hG.ps, hG.parts, fun h => (by cases h), by show c.made = ((lastSet c.recs step (toldC d)).length : Nat); rw [lastSet_length]; exact hG.made⟩
  have hrl4 : c1.recs.length ≤ 1000000 := by rw [hc1]; show (lastSet _ _ _).length ≤ _; rw [lastSet_length]; exact hrl
  have hst : r.status = d.f.status := congrArg Flds.status HBare.out
  have hfh : r.fh = d.f.fh := congrArg Flds.fh HBare.out
  have hob : r.obj = d.f.obj := congrArg Flds.obj HBare.out
  have a0 : V2.cell? ⟨br, 0, none⟩ = some (.int .i64 d.f.status) := by rw [← hst]; exact bR4.cell 0
  have a1 : V2.cell? ⟨br, 1, none⟩ = some (.string (bs d.f.fh)) := by rw [← hfh]; exact bR4.cell 1
  have a2 : V2.cell? ⟨br, 2, none⟩ = some (.bool d.f.obj.is) := by rw [← hob]; exact bR4.cell 2
  have a10 : V2.cell? ⟨br, 10, none⟩ = some (.int .i64 d.f.obj.attr.gen) := by rw [← hob]; exact bR4.cell 10
  have hnow1 : z1.now = c.now := by rw [hz1]; exact HC1.out.is.now
  have hps1 : ∀ i, c1.at_ i = c.at_ i := fun i => by rw [hc1]; rfl
  have HQ := Lib.hid (show c.took d step now = if d.f.status ≠ 0 then ({ c1 with parts := [] }, []) else (if c.now.put ≠ -1 ∧ d.f.fh ≠ [] ∧ d.f.obj.is = true then c1.put_ c.now.put { c.at_ c.now.put with handle := d.f.fh, gen := d.f.obj.attr.gen } else c1).next step now from by rw [hc1]; rfl)
  have HC4 := Lib.hid hC4
  have HT4 := Lib.hid hTV2
  have hgn := HC4.out.blk
  have HCg := Lib.hid HC1.out.fg
  have HPN := Lib.hid (show c.now.put = -1 ∨ (0 ≤ c.now.put ∧ c.now.put < 4) from (hG.now hbu).put)
  clear hV2 hT4 hb4 i3 hc1 hz1 hGd hC4 bR4 hTV2 hst hfh hob v49 fr1 HC3 HTV1 HBR3 HR2 HB2 HC1 HBR1 HT1 HBare H5b
  by_cases hs : d.f.status = 0
  case neg =>
    obtain ⟨V3, hcl, hTp, hTG⟩ := HC4.out.cleared
    have c19 : V2.cell? ⟨g, 19, none⟩ = some (.slice z1.ta z1.tn z1.tc) := hgn.cell 19
    have hng : ¬ TyIn V2 [91] g := fun h => absurd (ty_one hgn h) (by decide)
    have hb3 := hgn.touch hTp hng
    have d19 : V3.cell? ⟨g, 19, none⟩ = some (.slice z1.ta z1.tn z1.tc) := hb3.cell 19
    have fr3 := hb3.frozen
    have HP := Lib.hid (And.intro hTp hTG)
    clear hng hb3 hTp hTG hgn
    go_wp2
    go_ret
    rw [HQ.out, if_pos hs]
    have h5 := HC4.out.dropped HP.out.1 rfl
    refine ⟨_, rfl, RowS.none_, ⟨G, _, _, h5, hGF⟩, HT4.out.trans (HP.out.2.setCell (p := ⟨g, 19, none⟩) (.inl hGg) _) fun k hk hg => ?_⟩
    rcases hGF k hg with h | h
    · exact h
    · omega
  have HQ2 := Lib.hid (HQ.out.trans (if_neg (by simpa using hs)))
  rw [hs] at a0
  have c46 : V2.cell? ⟨g, 46, none⟩ = some (.int .i64 c.now.put) := by rw [hgn.cell 46, ← hnow1]; rfl
  clear hs HQ
  go_upto_region 16 with fail
  obtain ⟨cb, hcb⟩ : ∃ x, x = decide (c.now.put ≠ -1 ∧ d.f.fh ≠ [] ∧ d.f.obj.is = true) := ⟨_, rfl⟩
  go_cut [129] from 114 to 128 (fun v wx => v = .bool cb ∧ wx = V2)
  case first =>
    by_cases hp : c.now.put = -1
    · rw [hp] at c46
      clear hgn
      go_wp2
      go_meet
      case rel => exact ⟨by rw [hcb, decide_eq_false (fun h => h.1 hp)], rfl⟩
    · have hpb : (c.now.put != -1) = true := by simpa using hp
      by_cases hf : d.f.fh = []
      · rw [hf] at a1
        clear hgn
        go_wp2
        go_meet
        case rel => exact ⟨by rw [hcb, decide_eq_false (fun h => h.2.1 hf)], rfl⟩
      · have hfe : d.f.fh.isEmpty = false := by simpa using hf
        have hcb2 : cb = d.f.obj.is := by
          rw [hcb]
          cases hi : d.f.obj.is
          · exact decide_eq_false (fun h => by cases h.2.2)
          · exact decide_eq_true ⟨hp, hf, rfl⟩
        rw [← hcb2] at a2
        clear hgn hcb2 hcb
        go_wp2
        go_meet
        case rel => exact ⟨rfl, rfl⟩
  case rest =>
  obtain ⟨rfl, hw⟩ := hcut
  have hw2 := hw.symm
  clear hw
  subst hw2
  go_upto_if 129 with fail
  go_cut [] from 130 to 155 (fun wx => ∃ z3, ClAt G wx g (if c.now.put ≠ -1 ∧ d.f.fh ≠ [] ∧ d.f.obj.is = true then c1.put_ c.now.put { c.at_ c.now.put with handle := d.f.fh, gen := d.f.obj.attr.gen } else c1) z3 l2 ∧ Touch (fun k => k = g) V2 wx)
  case first =>
    cases cb
    case false =>
      have hno := of_decide_eq_false hcb.symm
      clear hgn hcb
      go_wp2
      go_meet
      case rel => rw [if_neg hno]; exact ⟨z1, HC4.out, Touch.refl _ _⟩
    case true =>
      have hyes := of_decide_eq_true hcb.symm
      obtain ⟨n, hn, hn4⟩ : ∃ n : Nat, c.now.put = n ∧ n < 4 := by
        rcases HPN.out with h | h
        · exact absurd h hyes.1
        · exact ⟨c.now.put.toNat, by omega, by omega⟩
      rw [hn] at c46
      obtain ⟨q0, q1, -, -⟩ := place_cells z1 hn4
      have e0 : V2.cell? ⟨g, 3 + n * 4, none⟩ = some (.string (bs (z1.place n).handle)) := (hgn.cell _).trans q0
      have e1 : V2.cell? ⟨g, 3 + n * 4 + 1, none⟩ = some (.int .i64 (z1.place n).gen) := (hgn.cell _).trans q1
      have fr2 := hgn.frozen
      have tp0 := hgn.thereB (3 + n * 4) 1 (by show 3 + n * 4 + 1 ≤ 56; omega)
      have hn0 : (0 : Int) ≤ (n : Int) := by omega
      have hn1 : (n : Int) < 4 := by omega
      have hIf := Lib.hid (show (if c.now.put ≠ -1 ∧ d.f.fh ≠ [] ∧ d.f.obj.is = true then c1.put_ c.now.put { c.at_ c.now.put with handle := d.f.fh, gen := d.f.obj.attr.gen } else c1) = c1.put_ (n : Int) { z1.place n with handle := d.f.fh, gen := d.f.obj.attr.gen } from by
        rw [if_pos hyes, hn, ← hps1, HC4.out.is.at_ hn4])
      clear hgn q0 q1 hyes hn hcb
      go_wp2
      go_region
      go_wp2
      go_meet
      case rel =>
        rw [hIf.out]
        have ht5 := (((Touch.refl (fun k => k = g) V2).setCell (p := ⟨g, 3 + n * 4, none⟩) (.inl rfl) (.string (bs d.f.fh))).setCell (p := ⟨g, 3 + n * 4 + 1, none⟩) (.inl rfl) (.int .i64 d.f.obj.attr.gen)).drew
        have hb5 := ((HC4.out.blk.set_ (3 + n * 4) (.string (bs d.f.fh))).set_ (3 + n * 4 + 1) (.int .i64 d.f.obj.attr.gen)).drew
        rw [place_set_handle z1 hn4] at hb5
        obtain ⟨k1, k2, k2c, k3, k4, k5⟩ := setPlace_keeps z1 hn4 { z1.place n with handle := d.f.fh, gen := d.f.obj.attr.gen }
        exact ⟨_, HC4.out.own ht5 hb5 (HC4.out.is.setPlace hn4 _) k1 k2 k2c rfl k3 k4 k5 rfl, ht5⟩
  case rest =>
  obtain ⟨z3, hC5, hT5⟩ := hcut
  obtain ⟨c2, hc2⟩ : ∃ x, x = (if c.now.put ≠ -1 ∧ d.f.fh ≠ [] ∧ d.f.obj.is = true then c1.put_ c.now.put { c.at_ c.now.put with handle := d.f.fh, gen := d.f.obj.attr.gen } else c1) := ⟨_, rfl⟩
  rw [← hc2] at hC5
  have HQ3 := HQ2.out
  rw [← hc2] at HQ3
  have hG5 : ClGood c2 := by
    rw [hc2]
    split
    · exact hG4.put_ _ ⟨hd.obj, (by rw [← hps1]; exact (hG4.at_ _).at_), (by rw [← hps1]; exact (hG4.at_ _).bytes)⟩
    · exact hG4
  have hrl5 : c2.recs.length ≤ 1000000 := by
    rw [hc2]
    split
    · exact hrl4
    · exact hrl4
  have hL5 : LaidF G wc := by
    obtain ⟨w0, e1, e2, e3⟩ := hL4
    exact ⟨w0, e1, e2.trans ((hT5.mono fun k _ hk => by subst hk; exact hGg).below (fun k _ hk => e3 k hk) e2.size), e3⟩
  have KN := Lib.hid (next33_any g G _ c2 z3 l2 hC5 hG5 hL5 hrl5 step now htm)
  have HT6 := Lib.hid (HT4.out.trans hT5 fun k hk hg => by subst hg; exact HCg.out)
  clear hC5 hT5 hc2 hgn a0 a1 a2 a10 c46
  go_wp2_with fail
  refine KN.out.mono ?_
  rintro e w6 h6
  have h7 := h6.lift HT6.out hGF
  rw [← HQ3] at h7
  obtain ⟨v, rfl, h8⟩ := h7
  go_wp2
  go_ret
  exact ⟨v, rfl, h8⟩

theorem took_of {c : ClD} {x : Packet} {step now : Int} (hb : c.busy = true) (hf : x.from_ = c.server) (hs : ¬ step < 1) (ht : timedC now = true) (h0 : (getM9 x.data).2 = 0) (h1 : (getM9 x.data).1.answer = true) (h2 : (getM9 x.data).1.xid = c.made) (h3 : (getM9 x.data).1.accept = 0) {d : RepD} (hd : pGet c.now.c.proc (getM9 x.data).1.body = some d) : c.take x step now = c.took d step now := by
  unfold ClD.take ClD.took
  rw [if_neg (by rw [hb, ht]; simp [hf, hs]), if_neg (by rw [h0, h1, h2, h3]; simp)]
  simp only [hd]
  split
  · rfl
  · split <;> rfl
theorem took_none {c : ClD} {x : Packet} {step now : Int} (hd : pGet c.now.c.proc (getM9 x.data).1.body = none) : c.take x step now = (c, []) := by
  unfold ClD.take
  split
  · rfl
  · split
    · rfl
    · simp only [hd]
def mayTake (c : ClD) (x : Packet) (step now : Int) : Bool := c.busy && (decide (x.from_ = c.server) && (decide (1 ≤ step) && timedC now))
def isAns (c : ClD) (m : Message) (er : Int) : Bool := decide (er = 0) && (m.answer && (decide (m.xid = c.made) && decide (m.accept = 0)))
theorem take_no1 {c : ClD} {x : Packet} {step now : Int} (h : mayTake c x step now = false) : c.take x step now = (c, []) := by
  unfold ClD.take
  rw [if_pos]
  unfold mayTake at h
  cases hb : c.busy
  · exact .inl rfl
  · rw [hb] at h
    by_cases h1 : x.from_ = c.server
    · by_cases h2 : 1 ≤ step
      · exact .inr (.inr (.inr (by simpa [h1, h2] using h)))
      · exact .inr (.inr (.inl (by omega)))
    · exact .inr (.inl h1)
theorem take_no2 {c : ClD} {x : Packet} {step now : Int} (h : isAns c (getM9 x.data).1 (getM9 x.data).2 = false) : c.take x step now = (c, []) := by
  unfold ClD.take
  split
  · rfl
  · rw [if_pos]
    unfold isAns at h
    by_cases h0 : (getM9 x.data).2 = 0
    · cases h1 : (getM9 x.data).1.answer
      · exact .inr (.inl rfl)
      · by_cases h2 : (getM9 x.data).1.xid = c.made
        · exact .inr (.inr (.inr (by simpa [h0, h1, h2] using h)))
        · exact .inr (.inr (.inl h2))
    · exact .inl h0
/-- what reply.Get gave -/
structure GotR33 (o : Option RepD) (z : Reply) (er : Int) (n : Nat) (W : World) : Prop where
  no : o = none → er ≠ 0
  yes : ∀ d, o = some d → er = 0 ∧ RepAt W (fun b => n ≤ b) z d
theorem GotR33.below {o : Option RepD} {z : Reply} {er : Int} {n : Nat} {W W' : World} (h : GotR33 o z er n W) (hb : Below W.heap.size W W') : GotR33 o z er n W' :=
  ⟨h.no, fun d hd => ⟨(h.yes d hd).1, (h.yes d hd).2.away (Touch.of_below hb (fun _ => False)) (fun _ _ h => h)⟩⟩
theorem rget33 (p : Int) (hp : 0 ≤ p ∧ p ≤ 21) (s : List UInt8) (n : Nat) (hl : s.length ≤ 9223372036854775807) (w : World) (hn : n ≤ w.heap.size) :
    Calls Tryz.prog 44 #[.int .i64 p, .string (bs s)] w fun e w' => ∃ z er, e = .returned (.tuple #[.agg (Reply.vals z).toArray, .int .i64 er]) ∧ GotR33 (pGet p s) z er n w' ∧ Below w.heap.size w w' := by
  refine (rget_any p hp s w hl).mono ?_
  intro e w' h
  unfold GetP8 at h
  cases ho : pGet p s with
  | none =>
    rw [ho] at h
    obtain ⟨rfl, hb⟩ := h
    exact ⟨replyZ, 14, rfl, ⟨fun _ => by decide, fun d hd => by cases hd⟩, hb⟩
  | some d =>
    rw [ho] at h
    obtain ⟨⟨z, rfl, h1, h2, h3⟩, hb⟩ := h
    have hs := pGet_small hl ho
    refine ⟨z, 0, rfl, ⟨fun h => (by cases h), fun d' hd => ?_⟩, hb⟩
    cases hd
    exact ⟨rfl, h1, h2.base (Nat.zero_le _), h3.base (Nat.zero_le _), fun k hk => Nat.le_trans hn (h2.lt k hk).1, fun k hk => Nat.le_trans hn (h3.lt k hk).1, Nat.le_trans hs.le (by decide), Nat.le_trans hs.lu (by decide)⟩
theorem GotR33.put {o : Option RepD} {z : Reply} {er : Int} {n : Nat} {W : World} {b : Nat} {cs : List Value} (h : GotR33 o z er n W) (hb : Blk W b 51 cs) (vs : List Value) : GotR33 o z er n (putsW W b 0 vs) := by
  have ht : Touch (TyIn W [51]) W (putsW W b 0 vs) := ((Touch.refl (fun k => k = b) W).puts (k := b) (.inl rfl)).mono fun k _ hk => by subst hk; exact tyIn_of hb (by decide)
  exact ⟨h.no, fun d hd => ⟨(h.yes d hd).1, by
    have r := (h.yes d hd).2
    exact ⟨r.bare, r.es.tou ht (by decide), r.us.tou ht (by decide), r.ie, r.iu, r.le, r.lu⟩⟩⟩
theorem Blk.putsNew {w : World} {C : Array Value} {T : TypeId} {cs : List Value} (hn : C.size = cs.length) : Blk (putsW (w.alloc (.cells C T)) w.heap.size 0 cs) w.heap.size T cs := by
  rw [putsW_new _ _ _ _ _ rfl hn]
  exact Blk.new w T cs
theorem Below.putsNew {w : World} {C : Array Value} {T : TypeId} {cs : List Value} (hn : C.size = cs.length) : Below w.heap.size w (putsW (w.alloc (.cells C T)) w.heap.size 0 cs) := by
  rw [putsW_new _ _ _ _ _ rfl hn]
  exact (Below.refl _ _).alloc (Nat.le_refl _) _
theorem Below.puts33 {B : Nat} {a w : World} {b o : Nat} {cs : List Value} (hb : B ≤ b) (h : Below B a w) : Below B a (putsW w b o cs) := by
  rw [putsW_eq]
  exact Below.setCells hb _ _ _ h
set_option maxRecDepth 20000 in
set_option maxHeartbeats 10000000 in
theorem take33_any (F : Nat → Prop) (w : World) (g : Nat) (c : ClD) (z : Clnt) (l : List Recd) (hC : ClAt F w g c z l) (hG : ClGood c) (hL : LaidF F w) (hrl : c.recs.length ≤ 1000000) (hbr : c.busy = true → c.recs ≠ []) (x : Packet) (step now : Int) (hbl : (getM9 x.data).1.body.length ≤ 9223372036854775807) :
    Calls Tryz.prog 13 #[.pointer (some ⟨g, 0, none⟩), .agg x.vals.toArray, .int .i64 step, .int .i64 now] w (NextP F g (c.take x step now).1 (c.take x step now).2 w) := by
  have bX := Blk.new w 40 x.vals
  have hB : Below w.heap.size w (w.alloc (.cells x.vals.toArray 40)) := (Below.refl _ _).alloc (Nat.le_refl _) _
  obtain ⟨w1, hw1⟩ : ∃ V, V = w.alloc (.cells x.vals.toArray 40) := ⟨_, rfl⟩
  rw [← hw1] at bX hB
  have hC1 := hC.below hB
  have c49 : w1.cell? ⟨g, 49, none⟩ = some (.bool c.busy) := by rw [hC1.blk.cell 49, ← hC.is.busy]; rfl
  have c2 : w1.cell? ⟨g, 2, none⟩ = some (.int .i64 c.server) := by rw [hC1.blk.cell 2, ← hC.is.server]; rfl
  have x0 : w1.cell? ⟨w.heap.size, 0, none⟩ = some (.int .i64 x.from_) := bX.cell 0
  have HC := Lib.hid hC
  have HB := Lib.hid hB
  have HX := Lib.hid bX
  have HW1 := Lib.hid hw1
  clear hC hB bX hC1 hw1
  go_enter Tryz.func13, Tryz.ntmps13
  go_upto_region 1 with fail
  change Code.wp _ _ _ _ (w.alloc (.cells x.vals.toArray 40))
  rw [← HW1.out]
  obtain ⟨m1, hm1⟩ : ∃ b, b = mayTake c x step now := ⟨_, rfl⟩
  go_cut [39] from 13 to 38 (fun v wx => v = .bool (!m1) ∧ Below w1.heap.size w1 wx)
  case first =>
    have QT : ∀ W, Calls Tryz.prog 34 #[.int .i64 now] W fun e w' => e = .returned (.bool (timedC now)) ∧ ∃ n, w' = W.drewN n := fun W => (timed33_any now W).mono (by rintro e w' ⟨rfl, rfl⟩; exact ⟨rfl, 0, rfl⟩)
    cases hbu : c.busy
    case false =>
      rw [hbu] at c49
      have HQ := Lib.hid (show m1 = false by rw [hm1]; unfold mayTake; rw [hbu]; rfl)
      clear hm1 QT
      go_quiet (fail)
      all_goals
        go_wp2
        go_meet
        case rel => exact ⟨by rw [HQ.out]; rfl, bdN (Below.refl _ _) _⟩
    case true =>
      rw [hbu] at c49
      by_cases hfr : x.from_ = c.server
      case neg =>
        have hfb : (x.from_ != c.server) = true := by simpa using hfr
        have HQ := Lib.hid (show m1 = false by rw [hm1]; unfold mayTake; rw [hbu, decide_eq_false hfr]; rfl)
        clear hm1 QT hfr
        go_quiet (fail)
        all_goals
          go_wp2
          go_meet
          case rel => exact ⟨by rw [HQ.out]; rfl, bdN (Below.refl _ _) _⟩
      case pos =>
        rw [hfr] at x0
        by_cases hst : step < 1
        case pos =>
          have HQ := Lib.hid (show m1 = false by rw [hm1]; unfold mayTake; rw [hbu, decide_eq_true hfr, decide_eq_false (by omega)]; rfl)
          clear hm1 QT hfr
          go_quiet (fail)
          all_goals
            go_wp2
            go_meet
            case rel => exact ⟨by rw [HQ.out]; rfl, bdN (Below.refl _ _) _⟩
        case neg =>
          have HQ := Lib.hid (show m1 = timedC now by rw [hm1]; unfold mayTake; rw [hbu, decide_eq_true hfr, decide_eq_true (by omega)]; rfl)
          generalize timedC now = tm at *
          clear hm1 hfr
          go_quiet (first
            | (go_at_call 34; refine Calls.quiet_of (QT _))
            | fail)
          all_goals
            go_wp2
            go_meet
            case rel => exact ⟨by rw [HQ.out], bdN (Below.refl _ _) _⟩
  case rest =>
  obtain ⟨rfl, hb1⟩ := hcut
  have HQ1 := Lib.hid hm1
  have HBc := Lib.hid (below_then HB.out hb1)
  have x2 : wc.cell? ⟨w.heap.size, 2, none⟩ = some (.string (bs x.data)) := (HX.out.stays hb1).cell 2
  have hlc : w.heap.size < wc.heap.size := (HX.out.stays hb1).lt
  clear hm1 c49 c2 x0 hb1 HB HX HW1
  cases m1
  case false =>
    go_wp2
    go_ret
    rw [take_no1 HQ1.out.symm]
    exact ⟨_, rfl, RowS.none_, ⟨F, z, l, HC.out.below HBc.out, fun k hk => .inl hk⟩, Touch.of_below HBc.out _⟩
  have hmt : c.busy = true ∧ x.from_ = c.server ∧ 1 ≤ step ∧ timedC now = true := by
    have h := HQ1.out.symm
    unfold mayTake at h
    simpa using h
  have HMT := Lib.hid hmt
  clear hmt HQ1
  go_wp2_with fail
  refine (get9_any x.data _).mono ?_
  rintro e w2 ⟨rfl, hb2⟩
  have HB2 := Lib.hid (below_then HBc.out hb2)
  have hs2 : w.heap.size < w2.heap.size := Nat.lt_of_lt_of_le hlc hb2.size
  have HQ2 := Lib.hid (fun (h : isAns c (getM9 x.data).1 (getM9 x.data).2 = false) => take_no2 (step := step) (now := now) h)
  have HQ3 := Lib.hid (fun (h0 : (getM9 x.data).2 = 0) (h1 : (getM9 x.data).1.answer = true) (h2 : (getM9 x.data).1.xid = c.made) (h3 : (getM9 x.data).1.accept = 0) (d : RepD) (hd : pGet c.now.c.proc (getM9 x.data).1.body = some d) => took_of HMT.out.1 HMT.out.2.1 (show ¬ step < 1 by have := HMT.out.2.2.1; omega) HMT.out.2.2.2 h0 h1 h2 h3 hd)
  have HQ4 := Lib.hid (fun (hd : pGet c.now.c.proc (getM9 x.data).1.body = none) => took_none (step := step) (now := now) hd)
  clear x2 hb2 HBc
  generalize getM9 x.data = q at *
  obtain ⟨m, er⟩ := q
  simp only at HQ2 HQ3 HQ4 hbl
  have bM := Blk.new w2 81 m.vals
  have hb3 : Below w2.heap.size w2 (w2.alloc (.cells m.vals.toArray 81)) := (Below.refl _ _).alloc (Nat.le_refl _) _
  obtain ⟨w3, hw3⟩ : ∃ V, V = w2.alloc (.cells m.vals.toArray 81) := ⟨_, rfl⟩
  rw [← hw3] at bM hb3
  have HB3 := Lib.hid (below_then HB2.out hb3)
  have HW3 := Lib.hid hw3
  have HM := Lib.hid bM
  have hl3 : w2.heap.size < w3.heap.size := bM.lt
  have hC3 := HC.out.below HB3.out
  have a54 : w3.cell? ⟨g, 54, none⟩ = some (.int .i64 c.made) := by rw [hC3.blk.cell 54, ← hC3.is.made]; rfl
  have m0 : w3.cell? ⟨w2.heap.size, 0, none⟩ = some (.int .i64 m.xid) := bM.cell 0
  have m1' : w3.cell? ⟨w2.heap.size, 1, none⟩ = some (.bool m.answer) := bM.cell 1
  have m5 : w3.cell? ⟨w2.heap.size, 8, none⟩ = some (.int .i64 m.accept) := bM.cell 8
  clear hw3 bM hb3 hC3 HB2
  rw [show gotV9 (m, er) = .tuple #[.agg m.vals.toArray, .int .i64 er] from rfl]
  go_upto_region 4 with fail
  change Code.wp _ _ _ _ (w2.alloc (.cells m.vals.toArray 81))
  rw [← HW3.out]
  obtain ⟨m2, hm2⟩ : ∃ b, b = isAns c m er := ⟨_, rfl⟩
  go_cut [66] from 46 to 65 (fun v wx => v = .bool (!m2) ∧ Below w3.heap.size w3 wx)
  case first =>
    by_cases h0 : er = 0
    case neg =>
      have h0b : (er != 0) = true := by simpa using h0
      have HQ := Lib.hid (show m2 = false by rw [hm2]; unfold isAns; rw [decide_eq_false h0]; rfl)
      clear hm2 h0
      go_quiet (fail)
      all_goals
        go_wp2
        go_meet
        case rel => exact ⟨by rw [HQ.out]; rfl, bdN (Below.refl _ _) _⟩
    case pos =>
      subst h0
      cases hma : m.answer
      case false =>
        rw [hma] at m1'
        have HQ := Lib.hid (show m2 = false by rw [hm2]; unfold isAns; rw [hma]; rfl)
        clear hm2
        go_quiet (fail)
        all_goals
          go_wp2
          go_meet
          case rel => exact ⟨by rw [HQ.out]; rfl, bdN (Below.refl _ _) _⟩
      case true =>
        rw [hma] at m1'
        by_cases hxi : m.xid = c.made
        case neg =>
          have hxb : (m.xid != c.made) = true := by simpa using hxi
          have HQ := Lib.hid (show m2 = false by rw [hm2]; unfold isAns; rw [hma, decide_eq_false hxi]; rfl)
          clear hm2 hxi
          go_quiet (fail)
          all_goals
            go_wp2
            go_meet
            case rel => exact ⟨by rw [HQ.out]; rfl, bdN (Below.refl _ _) _⟩
        case pos =>
          rw [hxi] at m0
          have HQ := Lib.hid (show (!m2) = (m.accept != 0) by rw [hm2]; unfold isAns; rw [hma, decide_eq_true hxi]; by_cases h : m.accept = 0 <;> simp [h])
          clear hm2 hxi
          go_quiet (fail)
          all_goals
            go_wp2
            go_meet
            case rel => exact ⟨by rw [HQ.out], bdN (Below.refl _ _) _⟩
  case rest =>
  obtain ⟨rfl, hb4⟩ := hcut
  have HQ5 := Lib.hid hm2
  have HB4 := Lib.hid (below_then HB3.out hb4)
  have hM4 := HM.out.stays hb4
  clear hm2 a54 m0 m1' m5 HB3 HM HW3
  cases m2
  case false =>
    go_wp2
    go_ret
    rw [HQ2.out HQ5.out.symm]
    exact ⟨_, rfl, RowS.none_, ⟨F, z, l, HC.out.below HB4.out, fun k hk => .inl hk⟩, Touch.of_below HB4.out _⟩
  have hans : er = 0 ∧ m.answer = true ∧ m.xid = c.made ∧ m.accept = 0 := by
    have h := HQ5.out.symm
    unfold isAns at h
    simpa using h
  obtain ⟨rfl, ha1, ha2, ha3⟩ := hans
  have HT := Lib.hid (HQ3.out rfl ha1 ha2 ha3)
  clear ha1 ha2 ha3 HQ5 HQ3 HQ2
  have hpr := (hG.now HMT.out.1).proc
  have hC4 := HC.out.below HB4.out
  have a20 : wc.cell? ⟨g, 20, none⟩ = some (.int .i64 c.now.c.proc) := by rw [hC4.blk.cell 20, ← hC4.is.now]; rfl
  have m9 : wc.cell? ⟨w2.heap.size, 9, none⟩ = some (.string (bs m.body)) := hM4.cell 9
  have hg4 : g < wc.heap.size := hC4.blk.lt
  have hw4 : w2.heap.size < wc.heap.size := hM4.lt
  have hwn : w.heap.size ≤ wc.heap.size := HB4.out.size
  have KG := Lib.hid (fun W (hn : w.heap.size ≤ W.heap.size) => rget33 c.now.c.proc hpr m.body w.heap.size hbl W hn)
  have HS := Lib.hid (fun (V : World) (h : Below wc.heap.size wc V) => (show V.cell? ⟨g, 20, none⟩ = some (.int .i64 c.now.c.proc) ∧ V.cell? ⟨w2.heap.size, 9, none⟩ = some (.string (bs m.body)) from ⟨(h.cell (p := ⟨g, 20, none⟩) hg4).trans a20, (h.cell (p := ⟨w2.heap.size, 9, none⟩) hw4).trans m9⟩))
  clear hC4 a20 m9 hM4
  generalize c.now.c.proc = pr at *
  go_upto_region 6 with fail
  go_cut [10, 11] from 67 to 78 (fun v10 v11 wx => ∃ br z er, v10 = .int .i64 er ∧ v11 = .pointer (some ⟨br, 0, none⟩) ∧ Blk wx br 51 (Reply.vals z) ∧ GotR33 (pGet pr m.body) z er w.heap.size wx ∧ Below wc.heap.size wc wx)
  case first =>
    have hS0 := HS.out wc.drew (Below.refl _ _).drew
    go_region_held3 (fun V => V.cell? ⟨g, 20, none⟩ = some (.int .i64 pr) ∧ V.cell? ⟨w2.heap.size, 9, none⟩ = some (.string (bs m.body))) (first | with_reducible assumption | exact HS.out _ ((Below.refl _ _).alloc (Nat.le_refl _) _).drew | exact HS.out _ (hb6.alloc hb6.size _) | exact HS.out _ (Below.puts33 (Nat.le_refl _) hb6) | exact HS.out _ (Below.puts33 hb6.size (hb6.alloc hb6.size _))) (first
      | (go_at_call 44; refine (KG.out _ ?_).mono ?_; (first | exact hwn | (simp; omega)); rintro e w5 ⟨z5, er5, rfl, hG5, hb5⟩; have hb6 : Below wc.heap.size wc w5 := (by first | exact below_then (Below.refl _ _).drew hb5 | exact below_then ((Below.refl _ _).alloc (Nat.le_refl _) _).drew hb5); have hS5 := HS.out w5 hb6; first | (have hZ5 : Blk w5 wc.heap.size 51 replyZ.vals := (Blk.new wc 51 replyZ.vals).drew.stays hb5; have ht5 : thereB w5 wc.heap.size 0 58 = true := hZ5.thereB 0 58 (Nat.le_refl _)) | skip)
      | fail)
    all_goals clear hS5
    all_goals clear hb5
    all_goals go_wp2
    all_goals go_meet
    case rel => exact ⟨_, z5, er5, rfl, rfl, Blk.putsNew rfl, hG5.below (Below.putsNew rfl), below_then hb6 (Below.putsNew rfl)⟩
    case rel =>
      have q1 := hZ5.puts 0 z5.vals
      rw [reply_set0] at q1
      exact ⟨_, z5, er5, rfl, rfl, q1, hG5.put hZ5 _, Below.puts33 (Nat.le_refl _) hb6⟩
  case rest =>
  obtain ⟨br, rz, er, rfl, rfl, bR, hGR, hb7⟩ := hcut
  have hB7 := below_then HB4.out hb7
  have hC7 := HC.out.below hB7
  clear hb7 hb4 hg4 hw4 hwn KG HS
  cases ho : pGet pr m.body with
  | none =>
    have hneb : (er != 0) = true := by simpa using hGR.no ho
    have HF := Lib.hid (And.intro hB7 hC7)
    have HQ := Lib.hid (HQ4.out ho)
    clear hGR hB7 hC7
    go_wp2
    go_ret
    rw [HQ.out]
    exact ⟨_, rfl, RowS.none_, ⟨F, z, l, HF.out.2, fun k hk => .inl hk⟩, Touch.of_below HF.out.1 _⟩
  | some d =>
    obtain ⟨rfl, hr⟩ := hGR.yes d ho
    have hbu := HMT.out.1
    have htm := HMT.out.2.2.2
    apply_assumption
    exact take33_t9 F w _ g br c z l step now rz d _ (HT.out d ho) hC7 (Touch.of_below hB7 F) bR hr (pGet_small hbl ho) hG hL hrl hbu (hbr hbu) htm _ _ _ _ _ _ _ _ _ _ _ _ _ _ _ _ _ _ _ _ _ _ _ _ _ _ _ _ _ _ _ _ _ _ _ _ _ _ _ _ _ _ _ _ _ _ _ _ _ _ _ _ _ _ _ _ _ _ _ _ _ _ _ _ _ _ _ _ _ _ _ _ _ _ _ _ _ _ _ _ _ _ _ _ _ _ _ _ _ _ _ _ _ _ _ _ _ _ _ _ _ _ _ _ _ _ _ _ _ _ _ _ _ _ _ _ _ _ _ _ _ _ _ _ _ _ _ _ _ _ _ _ _ _ _ _ _ _ _ _ _ _ _ _ _ _ _ _ _ _ _ _ _ _ _
end Go.Proofs.YtfjflkmhhbhceaaGreatDoor
