/-
  Layer 33, walks: results with Gens in the place of handles. Conditions: at most a million entries; Gens of Go's numbers; the tables are laid.
-/
import Derived.Test.YtfjflkmhhbhceaaGreatDoorW34
import Derived.Test.YtfjflkmhhbhceaaGreatDoorW30
import Derived.Deep.CutRange
import Derived.Test.YtfjflkmhhbhceaaGreatDoorW16
import Derived.Test.YtfjflkmhhbhceaaGreatDoorW15
import Derived.Test.YtfjflkmhhbhceaaGreatDoorW03
import Derived.Test.YtfjflkmhhbhceaaGreatDoorW33
import Derived.StillTailTactics
namespace Go.Proofs.YtfjflkmhhbhceaaGreatDoor
open Go.RowKit
open Go.RowKit
attribute [local go_sem ↓] Go.wp_at_zero Go.wp_at_succ
attribute [local go_sem] rowAt_ptr rowOf_drew rowOf_drewN rowOf_alloc_past rowOf_new
theorem rowV33_entry (x : Entry) : rowV33 15 (.agg x.vals.toArray) = true := by
  obtain ⟨_, _, _, ⟨_, ⟨⟩⟩, _⟩ := x
  rfl
theorem putsW_entry (w : World) (T : TypeId) (b : Nat) (x : Entry) (hb : b = w.heap.size) : putsW (w.alloc (.cells #[.int .i64 0, .string ⟨#[]⟩, .int .i64 0, .bool false, .int .i64 0, .int .i64 0, .int .i64 0, .int .i64 0, .int .i64 0, .int .i64 0, .int .i64 0, .int .i64 0, .int .i64 0, .int .i64 0, .string ⟨#[]⟩] T)) b 0 x.vals = w.alloc (.cells x.vals.toArray T) := putsW_new w _ T b x.vals hb rfl
section
variable {ρ : Operand → Value} {w : World} {dst : Option Tmp} {ty : TypeId} {pos : String} {after : Array Edge} {g : Option (Nat × Bool)} {x y : Operand}
theorem st33Entry (hx : ptrAt (ρ x) = true) (hy : rowV33 15 (ρ y) = true) (ht : thereB w (blkAt (ρ x)) (offAt (ρ x)) 15 = true) :
    (execOp ρ ⟨dst, .store 126 x y, ty, pos, after, g⟩).run Tryz.prog w = .ok .skip (putsW w (blkAt (ρ x)) (offAt (ρ x)) (ρ y).cells.toList) := exStore33 (by kernel_rfl) hx hy ht
end
attribute [local go_sem ↓] st33Reply ld33Reply st33Entry ld33Entry st33Text

attribute [local go_sem] thereB_drew thereB_drewN thereB_new thereB_past putsW_drew putsW_size putsW_new putsW_entry ptrAt blkAt offAt allV33 oneV33

attribute [local go_sem low] rowV33_agg

attribute [local go_sem] Reply.len Entry.len rowV33_reply rowV33_entry

theorem reply_set1 (r : Reply) (s : List UInt8) : setAt r.vals 1 [.string (bs s)] = ({ r with fh := s } : Reply).vals := by
  obtain ⟨⟩ := r
  rfl
theorem reply_set0 (r z : Reply) : setAt r.vals 0 z.vals = z.vals := by
  have h := setAt_mid z.vals r.vals [] [] (by rw [Reply.len, Reply.len])
  simpa using h
/-- what the handle becomes -/
def toldF (r : Reply) : Reply := { r with fh := if r.fh = [] then r.fh else genText r.obj.attr.gen }
theorem toldF_bare (r : Reply) (d : RepD) (h : r.bare = d.f) : (toldF r).bare = (toldC d).f := by
  have hf : r.fh = d.f.fh := by rw [← h]; rfl
  have hg : r.obj = d.f.obj := by rw [← h]; rfl
  show _ = if d.f.fh = [] then d.f else { d.f with fh := genText d.f.obj.attr.gen }
  rw [← h]
  unfold toldF
  by_cases h0 : r.fh = []
  · rw [if_pos (show r.bare.fh = [] from h0), if_pos h0]
  · rw [if_neg (show ¬ r.bare.fh = [] from h0), if_neg h0]
    rfl
/-- results that are told: in their box, their entries in a row of the call's own -/
structure ToldW (w : World) (r : Reply) (es : List Entry) (us : List Int) (W : World) : Prop where
  a : Blk W w.heap.size 51 r.vals
  b : Blk W (w.heap.size + 1) 51 replyZ.vals
  e : RowS W (w.heap.size + 2) 126 15 (.slice r.ea r.en r.ec) (es.map Entry.vals)
  u : RowS W (w.heap.size + 2) 3 1 (.slice r.ua r.un r.uc) (us.map int1)
  l : Below w.heap.size w W
section
variable {w W W' : World} {r : Reply} {es : List Entry} {us : List Int}
theorem ToldW.below (h : ToldW w r es us W) (hb : Below W.heap.size W W') : ToldW w r es us W' := ⟨h.a.stays hb, h.b.stays hb, h.e.stays hb, h.u.stays hb, below_then h.l hb⟩
theorem ToldW.fh (h : ToldW w r es us W) (s : List UInt8) : ToldW w { r with fh := s } es us (putsW W w.heap.size 1 [.string (bs s)]) := by
  have ht : Touch (fun k => k = w.heap.size) W (putsW W w.heap.size 1 [.string (bs s)]) := (Touch.refl _ _).puts (.inl rfl)
  have h1 := h.a.puts 1 [.string (bs s)]
  rw [reply_set1] at h1
  refine ⟨h1, h.b.putsFar (by omega), h.e.touch ht fun k hk e => ?_, h.u.touch ht fun k hk e => ?_, ?_⟩
  · have := h.e.lt k hk; omega
  · have := h.u.lt k hk; omega
  · rw [putsW_eq]
    exact Below.setCells (Nat.le_refl _) _ _ _ h.l
theorem ToldW.next {k : Nat} {l : List Entry} (h : ToldW w r (toldN k l) us W) (hk : k < l.length) {g : Nat} (hg : r.ea = some ⟨g, 0, none⟩) (h0 : l[k].fh ≠ []) : ToldW w r (toldN (k + 1) l) us (putsW W g (k * 15 + 14) [.string (bs (genText l[k].gen))]) := by
  have ht : Touch (fun j => j = g) W (putsW W g (k * 15 + 14) [.string (bs (genText l[k].gen))]) := (Touch.refl _ _).puts (.inl rfl)
  have he := h.e
  rw [hg] at he
  have hgl := he.lt g rfl
  have hty : Touch (TyIn W [126]) W (putsW W g (k * 15 + 14) [.string (bs (genText l[k].gen))]) := ht.mono fun j _ hj => by
    subst hj
    obtain ⟨C, hC⟩ := own_ty he.2 j rfl
    exact ⟨C, _, _, hC, by decide⟩
  refine ⟨h.a.putsFar (by omega), h.b.putsFar (by omega), ?_, h.u.tou hty (by decide), ?_⟩
  · rw [hg]
    have h1 := he
    rw [toldN_here hk, List.map_append, List.map_cons] at h1
    have h2 := RowS.putMid (a := l[k].vals.take 14) (m := [.string (bs l[k].fh)]) (b := []) (r := [.string (bs (genText l[k].gen))]) (pre := ((l.take k).map toldE).map Entry.vals) (post := (l.drop (k + 1)).map Entry.vals) (by
      rw [List.append_nil, show l[k].vals.take 14 ++ [Value.string (bs l[k].fh)] = l[k].vals from rfl]
      exact h1) rfl (by
      have := h1.lenOf
      rw [List.append_nil, show l[k].vals.take 14 ++ [Value.string (bs l[k].fh)] = l[k].vals from rfl]
      exact this)
    rw [List.length_map, List.length_map, List.length_take, Nat.min_eq_left (by omega), show (l[k].vals.take 14).length = 14 from rfl, ← putsW_eq, List.append_nil] at h2
    rw [toldN_next hk, List.map_append, List.map_cons, toldE_yes h0]
    exact h2
  · rw [putsW_eq]
    exact Below.setCells (by omega) _ _ _ h.l
theorem ToldW.nextNo {k : Nat} {l : List Entry} (h : ToldW w r (toldN k l) us W) (hk : k < l.length) (h0 : l[k].fh = []) : ToldW w r (toldN (k + 1) l) us W := by
  rw [toldN_next hk, toldE_no h0, ← toldN_here hk]
  exact h
end
set_option maxRecDepth 20000 in
set_option maxHeartbeats 3200000 in
theorem told33_any (x : RepL) (w : World) (hx : x.There w) (h1 : x.es.length ≤ 1000000) (h2 : x.us.length ≤ 1000000) (hg : x.r.obj.attr.gen ≤ 9223372036854775807) (hgs : ∀ e ∈ x.es, e.gen ≤ 9223372036854775807) (hL : TabLaid w) :
    Calls Tryz.prog 45 #[.agg x.r.vals.toArray] w fun e w' => ∃ r : Reply, e = .returned (.agg r.vals.toArray) ∧ RepAt w' (fun b => w.heap.size ≤ b) r (toldC ⟨x.r.bare, x.es, x.us⟩) ∧ Below w.heap.size w w' := by
  obtain ⟨bA, bR, hB, hs⟩ := chain2_blks w x.r.vals replyZ.vals 51 51
  obtain ⟨w1, hw1⟩ : ∃ V, V = (w.alloc (.cells x.r.vals.toArray 51)).alloc (.cells replyZ.vals.toArray 51) := ⟨_, rfl⟩
  rw [← hw1] at bA bR hB hs
  have HW1 := Lib.hid hw1
  have HBA := Lib.hid bA
  have HBR := Lib.hid bR
  have HB := Lib.hid hB
  have KC := Lib.hid (clone8_any x w1 (hx.below hB) h1 h2)
  have rA : rowOf w1 w.heap.size 0 58 = some x.r.vals.toArray := bA.row 0 58 (by rw [Reply.len]; decide)
  have hs1 : w1.heap.size = w.heap.size + 2 := hs
  clear hw1 bA bR hB hs
  go_enter Tryz.func45, Tryz.ntmps45
  go_upto_region 1 with fail
  change Code.wp _ _ _ _ ((w.alloc (.cells x.r.vals.toArray 51)).alloc (.cells replyZ.vals.toArray 51))
  rw [← HW1.out]
  go_wp2_with fail
  refine KC.out.mono ?_
  rintro e w2 ⟨r, rfl, hbare, -, hE, hU, hb2⟩
  have bA2 := HBA.out.stays hb2
  have tA := bA2.thereB 0 58 (by rw [Reply.len]; decide)
  have HT2 := Lib.hid (show ToldW w r x.es x.us (putsW w2 w.heap.size 0 r.vals) from by
    have ht : Touch (fun k => k = w.heap.size) w2 (putsW w2 w.heap.size 0 r.vals) := (Touch.refl _ _).puts (.inl rfl)
    have q1 := bA2.puts 0 r.vals
    rw [reply_set0] at q1
    have q2 := (HBR.out.stays hb2).putsFar (b := w.heap.size) (o := 0) (vs := r.vals) (by omega)
    rw [hs1] at hE hU
    refine ⟨q1, q2, hE.touch ht fun k hk e => ?_, hU.touch ht fun k hk e => ?_, ?_⟩
    · have := hE.lt k hk; omega
    · have := hU.lt k hk; omega
    · rw [putsW_eq]
      exact Below.setCells (Nat.le_refl _) _ _ _ (below_then HB.out hb2))
  have HOb := Lib.hid (show r.obj = x.r.obj from congrArg Flds.obj hbare)
  have HBr := Lib.hid hbare
  clear bA2 hE hU hb2 KC rA HBA HBR hbare HW1 HB
  go_upto_region 2 with fail
  generalize putsW w2 w.heap.size 0 r.vals = w3 at *
  have c1 : w3.cell? ⟨w.heap.size, 1, none⟩ = some (.string (bs r.fh)) := HT2.out.a.cell 1
  have c10 : w3.cell? ⟨w.heap.size, 10, none⟩ = some (.int .i64 r.obj.attr.gen) := HT2.out.a.cell 10
  clear tA
  have KT := Lib.hid (textT_any r.obj.attr.gen w3 (by rw [HOb.out]; exact hg) (hL.below HT2.out.l))
  have tB := Lib.hid (fun V (hb : Below w3.heap.size w3 V) => (HT2.out.a.stays hb).thereB 1 1 (by rw [Reply.len]; decide))
  have HQ := Lib.hid (show toldF r = if (!r.fh.isEmpty) = true then { r with fh := genText r.obj.attr.gen } else r by
    unfold toldF
    by_cases h0 : r.fh = []
    · rw [if_pos h0, if_neg (by rw [h0]; decide)]
    · rw [if_neg h0, if_pos (by simpa using h0)])
  go_upto_if 9 with fail
  generalize (!r.fh.isEmpty) = bm at *
  go_cut [] from 10 to 15 (fun wx => ToldW w (toldF r) x.es x.us wx)
  case first =>
    cases bm
    case false =>
      go_wp2
      go_meet
      case rel => rw [HQ.out, if_neg (by decide)]; exact HT2.out
    case true =>
      go_wp2_with fail
      refine KT.out.mono ?_
      rintro e w4 ⟨rfl, hb4⟩
      have t4 := tB.out _ hb4
      have HB4 := Lib.hid hb4
      clear hb4 c1 c10
      go_wp2
      go_meet
      case rel => rw [HQ.out, if_pos trivial]; exact (HT2.out.below HB4.out).fh _
  case rest =>
  clear c1 c10 HT2
  obtain ⟨r2, hr2⟩ : ∃ z, z = toldF r := ⟨_, rfl⟩
  rw [← hr2] at hcut
  have HR2 := Lib.hid hr2
  have HC := Lib.hid hcut
  have hen : r2.en = x.es.length := by have := hcut.e.lenOf; rwa [List.length_map] at this
  have c56 : wc.cell? ⟨w.heap.size, 56, none⟩ = some (.slice r2.ea r2.en r2.ec) := hcut.a.cell 56
  obtain ⟨A, hA⟩ : ∃ A, r2.ea = A := ⟨_, rfl⟩
  rw [hen, hA] at c56
  have HA := Lib.hid hA
  clear hcut hr2 hA hen
  go_wp2
  go_loopw [19] (fun i wr => ∃ k : Nat, k ≤ x.es.length ∧ i = .int .i64 k ∧ ToldW w r2 (toldN k x.es) x.us wr) (fun i _ => x.es.length - (intOf i).toNat)
  case atStart => exact ⟨0, Nat.zero_le _, rfl, by rw [toldN_zero]; exact HC.out⟩
  case round =>
    obtain ⟨k, hk, rfl, hT⟩ := hrel
    by_cases hlt : k < x.es.length
    · have he := hT.e
      obtain ⟨g, rfl, hg2, hgw⟩ : ∃ g, A = some ⟨g, 0, none⟩ ∧ w.heap.size + 2 ≤ g ∧ g < wr.heap.size := by
        rw [HA.out] at he
        rcases he.2.2 with ⟨h3, h4⟩ | ⟨g, cap, cur, h3, _⟩
        · rw [List.length_map, toldN_len] at h4; omega
        · injection h3 with h3 _ _
          exact ⟨g, h3, he.lt g (by rw [h3]; rfl)⟩
      have hea := HA.out
      have rE : rowOf wr g (k * 15) 15 = some x.es[k].vals.toArray := by
        obtain ⟨b2, o2, h3, h4, h5⟩ := he.rows k x.es[k].vals (by
          rw [toldN_here hlt, List.map_append, List.getElem?_append_right (by simp; omega)]
          simp [Nat.min_eq_left (Nat.le_of_lt hlt)]
          exact ⟨_, List.getElem?_eq_getElem hlt, rfl⟩)
        rw [hea] at h3
        injection h3 with h3
        injection h3 with h6 h7 _
        subst h6 h7
        refine rowOf_of (fun j u hu => ?_) (Entry.len _) (by decide)
        have h8 := h5 j u hu
        rw [show 0 + k * 15 + j = k * 15 + j by omega] at h8
        exact h8
      have HG := Lib.hid (hgs _ (List.getElem_mem hlt))
      have HN := Lib.hid (fun (W : World) (hb : Below wr.heap.size wr W) (h0 : x.es[k].fh ≠ []) => (hT.below hb).next hlt hea h0)
      have HN0 := Lib.hid (fun (W : World) (hb : Below wr.heap.size wr W) (h0 : x.es[k].fh = []) => (hT.below hb).nextNo hlt h0)
      have HTh := Lib.hid (fun (W : World) (hb : Below wr.heap.size wr W) => (show W.cell? ⟨w.heap.size, 56, none⟩ = some (.slice (some ⟨g, 0, none⟩) x.es.length r2.ec) ∧ thereB W g (k * 15 + 14) 1 = true from by
        have h3 := hT.below hb
        have h4 : W.cell? ⟨w.heap.size, 56, none⟩ = some (.slice r2.ea r2.en r2.ec) := h3.a.cell 56
        have h5 := h3.e
        have h6 := h5.lenOf
        rw [List.length_map, toldN_len] at h6
        rw [hea, h6] at h4 h5
        exact ⟨h4, h5.thereB_ _ _ (by omega)⟩))
      have HL4 := Lib.hid (fun (W : World) (hb : Below wr.heap.size wr W) => hL.below (below_then hT.l hb))
      generalize x.es[k] = ek at *
      have hk0 : (0 : Int) ≤ (k : Int) := Int.natCast_nonneg _
      have hk1 : (k : Int) < (x.es.length : Int) := by omega
      have hkw : IntKind.i64.wrap ((k : Int) + 1) = ((k + 1 : Nat) : Int) := by rw [IntWalk.i64_in _ (by omega)]; omega
      have bE := Blk.new wr 126 ek.vals
      have hb5 : Below wr.heap.size wr (wr.alloc (.cells ek.vals.toArray 126)) := (Below.refl _ _).alloc (Nat.le_refl _) _
      obtain ⟨w5, hw5⟩ : ∃ V, V = wr.alloc (.cells ek.vals.toArray 126) := ⟨_, rfl⟩
      rw [← hw5] at bE hb5
      have HW5 := Lib.hid hw5
      have HB5 := Lib.hid hb5
      clear hw5 he hT hea hb5
      go_upto_region 7 with fail
      change Code.wp _ _ _ _ (wr.alloc (.cells ek.vals.toArray 126))
      rw [← HW5.out]
      have e0 : w5.cell? ⟨wr.heap.size, 0, none⟩ = some (.int .i64 ek.gen) := bE.cell 0
      have e14 : w5.cell? ⟨wr.heap.size, 14, none⟩ = some (.string (bs ek.fh)) := bE.cell 14
      have hl5 : wr.heap.size < w5.heap.size := bE.lt
      clear rE bE
      by_cases h0 : ek.fh = []
      · have hie : ek.fh.isEmpty = true := by rw [h0]; rfl
        have HN1 := Lib.hid (HN0.out w5 HB5.out h0)
        clear h0
        go_wp2
        go_roundw
        case rel => exact ⟨k + 1, by omega, by go_num, HN1.out⟩
        case measure => simp [intOf]; omega
      · have hie : ek.fh.isEmpty = false := by simpa using h0
        have HN1 := Lib.hid (fun W hb => HN.out W hb h0)
        clear h0
        have KT := Lib.hid (textT_any ek.gen w5.drew HG.out (HL4.out _ HB5.out.drew))
        obtain ⟨d56, dT⟩ := HTh.out w5.drew HB5.out.drew
        have HS := Lib.hid (fun (W : World) (hb : Below wr.heap.size wr W) (hc : W.cell? ⟨wr.heap.size, 0, none⟩ = some (.int .i64 ek.gen)) (hl : wr.heap.size < W.heap.size) => (show (putsW W g (k * 15 + 14) [.string (bs (genText ek.gen))]).cell? ⟨w.heap.size, 56, none⟩ = some (.slice (some ⟨g, 0, none⟩) x.es.length r2.ec) ∧ (putsW W g (k * 15 + 14) [.string (bs (genText ek.gen))]).cell? ⟨wr.heap.size, 0, none⟩ = some (.int .i64 ek.gen) ∧ thereB (putsW W g (k * 15 + 14) [.string (bs (genText ek.gen))]) g (k * 15 + 14) 1 = true from
          ⟨(cell_putsFar W w.heap.size 56 g _ _ (by omega) (by omega)).trans (HTh.out W hb).1, (cell_putsFar W wr.heap.size 0 g _ _ (by omega) hl).trans hc, by rw [thereB_puts]; exact (HTh.out W hb).2⟩))
        go_wp2_with fail
        go_region_held3 (fun V => V.cell? ⟨w.heap.size, 56, none⟩ = some (.slice (some ⟨g, 0, none⟩) x.es.length r2.ec) ∧ V.cell? ⟨wr.heap.size, 0, none⟩ = some (.int .i64 ek.gen) ∧ thereB V g (k * 15 + 14) 1 = true) (first | with_reducible assumption | exact ⟨d56, e0, dT⟩) (first
          | (go_at_call 85; refine KT.out.mono ?_; rintro e w6 ⟨rfl, hb6⟩; have h6 := HTh.out w6 (HB5.out.drew.trans (hb6.mono (Nat.le_of_lt hl5))); have h60 := (hb6.cell (p := ⟨wr.heap.size, 0, none⟩) hl5).trans e0; have hS6 := And.intro h6.1 (And.intro h60 h6.2); have hS7 := HS.out w6 (HB5.out.drew.trans (hb6.mono (Nat.le_of_lt hl5))) h60 (Nat.lt_of_lt_of_le hl5 hb6.size))
          | fail)
        have HB6 := Lib.hid (HB5.out.drew.trans (hb6.mono (Nat.le_of_lt hl5)))
        clear hb6 hS6 hS7 h6 h60
        go_wp2
        go_roundw
        case rel => exact ⟨k + 1, by omega, by go_num, HN1.out _ HB6.out⟩
        case measure => simp [intOf]; omega
    · obtain rfl : k = x.es.length := by omega
      have rA : rowOf wr w.heap.size 0 58 = some r2.vals.toArray := hT.a.row 0 58 (by rw [Reply.len]; decide)
      have tB := hT.b.thereB 0 58 (by rw [Reply.len]; decide)
      have ht : Touch (fun k => k = w.heap.size + 1) wr (putsW wr (w.heap.size + 1) 0 r2.vals) := (Touch.refl _ _).puts (.inl rfl)
      have q1 := hT.b.puts 0 r2.vals
      rw [reply_set0] at q1
      have q2 : RepAt (putsW wr (w.heap.size + 1) 0 r2.vals) (fun b => w.heap.size ≤ b) r2 (toldC ⟨x.r.bare, x.es, x.us⟩) := by
        have h3 := hT.e.touch ht fun k hk e => by have := hT.e.lt k hk; omega
        have h4 := hT.u.touch ht fun k hk e => by have := hT.u.lt k hk; omega
        rw [toldN_all] at h3
        refine ⟨?_, h3.base (Nat.zero_le _), h4.base (Nat.zero_le _), fun j hj => ?_, fun j hj => ?_, ?_, h2⟩
        · rw [HR2.out]
          exact toldF_bare r ⟨x.r.bare, x.es, x.us⟩ HBr.out
        · have := h3.lt j hj; omega
        · have := h4.lt j hj; omega
        · show (x.es.map _).length ≤ _
          rw [List.length_map]; exact h1
      have q3 : Below w.heap.size w (putsW wr (w.heap.size + 1) 0 r2.vals) := by
        rw [putsW_eq]
        exact Below.setCells (Nat.le_succ _) _ _ _ hT.l
      have HF := Lib.hid (And.intro q1 (And.intro q2 q3))
      clear hT ht q1 q2 q3
      go_wp2
      exact ret_cells (w.heap.size + 1) 0 r2.vals Tryz.results45 Tryz.underlying51 rfl (by kernel_rfl) rfl HF.out.1.range rfl ⟨r2, rfl, HF.out.2.1, HF.out.2.2⟩
end Go.Proofs.YtfjflkmhhbhceaaGreatDoor

/-
  Layer 33, walks: the next call is made: from the 13th region on (printed by wip/tools/gennext33t.py). Condition: numbers within their bounds.
-/
namespace Go.Proofs.YtfjflkmhhbhceaaGreatDoor
open Go.RowKit
attribute [local go_sem ↓] Go.wp_at_zero Go.wp_at_succ
attribute [local go_sem] rowAt_ptr rowOf_drew rowOf_drewN rowOf_alloc_past rowOf_new
attribute [local go_sem ↓] st33Text st33Part st33Call st33Cred st33Packet ld33Part ld33Call ld33Cred ld33Packet exSlRecd1 exSlPacket1

attribute [local go_sem] thereB_drew thereB_drewN thereB_new thereB_past putsW_drew putsW_new putsW_past rowOf_far rowOf_putsFar cell_putsFar cell_putsBelow frozen_puts thereB_puts thereB_set putsW_size ptrAt blkAt offAt allV33 oneV33 cellsOf_agg

attribute [local go_sem low] rowV33_agg

attribute [local go_sem] putsW_call putsW_cred Call.len CPart.len Cred.len Packet.len rowV33_call rowV33_part rowV33_packet

attribute [local go_sem ↓] exRecd33

attribute [local go_sem] laterLd aggN33 intV33 zerosR33 List.cons_append List.nil_append

/-- a function's code from a region on -/
def codeFrom33 (n : Nat) : Code → Code
  | .seq a b => match a with
    | .region m _ _ => if m = n then .seq a b else codeFrom33 n b
    | _ => codeFrom33 n b
  | c => c
abbrev RowsS33 (bc bt : Nat) (C D : Array Value) (U : World) : Prop := rowOf U bc 0 4 = some C ∧ rowOf U bt 0 24 = some D
set_option maxRecDepth 20000 in
set_option maxHeartbeats 10000000 in
theorem next33_t2 (F : Nat → Prop) (w : World) (g bx bt : Nat) (c c2 : ClD) (z2 : Clnt) (l : List Recd) (step now : Int) (p : CPart) (ps : List CPart) (sx tx : Call) (bc : Nat) (pb : List UInt8) (hgl : g < w.heap.size) (hp : c.parts = p :: ps) (hrl : c.recs.length ≤ 1000000) (hnw : 0 ≤ now ∧ now ≤ 1099511627776) (Hc2 : Hid (c2 = { c with parts := ps, now := p })) (HTX : Hid (tx = c.tells p)) (HPB : Hid (pb = putBytes (c.message p))) (w10 : World)
    (hT10 : TwoC F g bx bt { c2 with made := c.made + 1 } { z2 with made := c.made + 1 } l w sx tx w10) (bC10 : Blk w10 bc 63 (c.cred p).vals) (y3 y4 y5 y6 y10 y11 y13 y14 y15 y16 y17 y18 y19 y20 y21 y22 y23 y24 y25 y26 y27 y28 y29 y30 y31 y32 y33 y34 y35 y36 y37 y38 y39 y40 y41 y42 y43 y44 y45 y46 y47 y48 y49 y50 y51 y52 y53 y54 y55 y56 y57 y58 y59 y60 y61 y62 y63 y64 y65 y66 y67 y68 y69 y70 y71 y72 y73 y74 y75 y76 y77 y78 y79 y80 y81 y82 y83 y84 y85 y86 y87 y88 y89 y90 y91 y92 y93 y94 y95 y96 y97 y98 y99 y100 y101 y102 y103 y104 y105 y106 y107 y108 y109 y110 y111 y112 y113 y114 y115 y116 y117 y118 y119 y120 y121 y122 y123 y124 y125 y126 y127 y128 y129 y130 y131 y132 y133 y134 y135 y136 y137 y138 y139 y140 y141 y142 y143 y144 y145 y146 y147 y148 y149 y150 y151 y152 y153 y154 y155 y156 y157 y158 y159 y160 y161 y162 y163 y164 y165 y166 y167 y168 y169 y170 y171 y172 y173 y174 y175 y176 y177 y178 y179 y180 y181 y182 y183 y184 y185 : Value) :
    Code.wp Tryz.prog (codeFrom33 13 (Tryz.f38.body.getD .ret)) (bodyPost Tryz.prog Tryz.f38 (NextP F g (c.next step now).1 (c.next step now).2 w)) ⟨#[.pointer (some ⟨g, 0, none⟩), .int .i64 step, .int .i64 now, y3, y4, y5, y6, .pointer (some ⟨bx, 0, none⟩), .pointer (some ⟨bt, 0, none⟩), .pointer (some ⟨bc, 0, none⟩), y10, y11, .string (bs pb), y13, y14, y15, y16, y17, y18, y19, y20, y21, y22, y23, y24, y25, y26, y27, y28, y29, y30, y31, y32, y33, y34, y35, y36, y37, y38, y39, y40, y41, y42, y43, y44, y45, y46, y47, y48, y49, y50, y51, y52, y53, y54, y55, y56, y57, y58, y59, y60, y61, y62, y63, y64, y65, y66, y67, y68, y69, y70, y71, y72, y73, y74, y75, y76, y77, y78, y79, y80, y81, y82, y83, y84, y85, y86, y87, y88, y89, y90, y91, y92, y93, y94, y95, y96, y97, y98, y99, y100, y101, y102, y103, y104, y105, y106, y107, y108, y109, y110, y111, y112, y113, y114, y115, y116, y117, y118, y119, y120, y121, y122, y123, y124, y125, y126, y127, y128, y129, y130, y131, y132, y133, y134, y135, y136, y137, y138, y139, y140, y141, y142, y143, y144, y145, y146, y147, y148, y149, y150, y151, y152, y153, y154, y155, y156, y157, y158, y159, y160, y161, y162, y163, y164, y165, y166, y167, y168, y169, y170, y171, y172, y173, y174, y175, y176, y177, y178, y179, y180, y181, y182, y183, y184, y185], []⟩ w10 := by
  change Code.wp _ (Code.seq (Code.region 13 _ _) _) _ _ _
  have HFg := Lib.hid hT10.cl.fg
  have hbk := hT10.cl.blk
  have d1 : w10.cell? ⟨g, 1, none⟩ = some (.int .i64 c.self) := by rw [hbk.cell 1]; show some (Value.int .i64 z2.self) = _; rw [hT10.cl.is.self]; show some (Value.int .i64 c2.self) = _; rw [Hc2.out]
  have d2 : w10.cell? ⟨g, 2, none⟩ = some (.int .i64 c.server) := by rw [hbk.cell 2]; show some (Value.int .i64 z2.server) = _; rw [hT10.cl.is.server]; show some (Value.int .i64 c2.server) = _; rw [Hc2.out]
  have t50 := hbk.thereB 50 3 (by show 50 + 3 ≤ 56; decide)
  have HT10 := Lib.hid hT10
  have HBC10 := Lib.hid bC10
  clear hT10 bC10 hbk
  go_wp2
  go_region
  obtain ⟨pk, hpk⟩ : ∃ k : Packet, k = ⟨c.self, c.server, pb⟩ := ⟨_, rfl⟩
  obtain ⟨w11, hw11⟩ : ∃ V, V = (putsW w10 g 50 pk.vals).drew := ⟨_, rfl⟩
  change Exit.then _ _ _ _ (putsW w10 g 50 (Packet.mk c.self c.server pb).vals).drew
  rw [← hpk, ← hw11]
  have HPK := Lib.hid hpk
  clear hpk
  have hT11 : TwoC F g bx bt { c2 with made := c.made + 1, sent := pk } { z2 with made := c.made + 1, sent := pk } l w sx tx w11 := by
    have h := HT10.out
    have ht : Touch (fun k => k = g) w10 w11 := by rw [hw11]; exact ((Touch.refl (fun k => k = g) w10).puts (k := g) (.inl rfl)).drew
    have hb := (h.cl.blk.puts 50 (pk).vals).drew
    rw [clnt_set50, ← hw11] at hb
    have i := h.cl.is
    have := h.lx
    have := h.lt
    exact ⟨h.xb.touch ht (by omega), h.tb.touch ht (by omega), h.cl.own ht hb ⟨i.id, i.self, i.server, i.ps, i.now, i.busy, rfl, i.due, i.made⟩ rfl rfl rfl rfl rfl rfl rfl rfl, h.ne, h.lx, h.lt, h.to.then_ ht⟩
  have bC11 : Blk w11 bc 63 (c.cred p).vals := by
    rw [hw11]
    have hne : bc ≠ g := fun e => by
      have h1 := HBC10.out
      rw [e] at h1
      exact absurd (h1.ne_ HT10.out.cl.blk (by decide)) (fun h => h rfl)
    exact (HBC10.out.putsFar hne).drew
  clear hw11 t50 d1 d2 HT10 HBC10
  have hcl := hT11.cl
  have hto := hT11.to
  have hrl2 : c2.recs.length ≤ 1000000 := by rw [Hc2.out]; exact hrl
  have rC : rowOf w11 bc 0 4 = some #[.int .i64 c.id, .int .i64 (c.made + 1), .int .i64 p.uid, .int .i64 p.gid] := bC11.row 0 4 (by rw [Cred.len]; omega)
  have d55 : w11.cell? ⟨g, 55, none⟩ = some (.slice z2.ra z2.rn z2.rc) := hcl.blk.cell 55
  have htb := hT11.tb
  have hg11 : g < w11.heap.size := hcl.blk.lt
  have hap := (hcl.away (G := fun _ => False) (w' := w11.drew) (Touch.refl _ _).drew (fun _ _ h => h)).more ⟨c.cred p, step, 0, tx, replyZ⟩ ⟨c.cred p, step, 0, tx, repD0⟩ rfl rfl rfl rfl rfl rfl hrl2
  have rT : rowOf w11 bt 0 24 = some tx.vals.toArray := htb.row 0 24 (by rw [Call.len]; omega)
  obtain ⟨xp, xf, xn, xg, xm, xo, xc, xh, xd, ⟨⟨b1, i1⟩, ⟨b2, i2⟩, ⟨b3, i3⟩, ⟨b4, i4⟩, ⟨b5, i5⟩⟩, ⟨b6, i6⟩, xk, xv, xt⟩ := tx
  replace rT : rowOf w11 bt 0 24 = some #[.int .i64 xp, .string (bs xf), .string (bs xn), .string (bs xg), .string (bs xm), .int .i64 xo, .int .i64 xc, .int .i64 xh, .string (bs xd), .bool b1, .int .i64 i1, .bool b2, .int .i64 i2, .bool b3, .int .i64 i3, .bool b4, .int .i64 i4, .bool b5, .int .i64 i5, .bool b6, .int .i64 i6, .int .i64 xk, .int .i64 xv, .string (bs xt)] := rT
  have HAp := Lib.hid (show ∃ v' w', (Builtin.append_ #[60, 60] 60 #[.slice z2.ra z2.rn z2.rc, .slice (some ⟨w11.heap.size, 0, none⟩) 1 1]).run Tryz.prog ((w11.alloc (.cells #[.int .i64 c.id, .int .i64 (c.made + 1), .int .i64 p.uid, .int .i64 p.gid, .int .i64 step, .int .i64 0, .int .i64 xp, .string (bs xf), .string (bs xn), .string (bs xg), .string (bs xm), .int .i64 xo, .int .i64 xc, .int .i64 xh, .string (bs xd), .bool b1, .int .i64 i1, .bool b2, .int .i64 i2, .bool b3, .int .i64 i3, .bool b4, .int .i64 i4, .bool b5, .int .i64 i5, .bool b6, .int .i64 i6, .int .i64 xk, .int .i64 xv, .string (bs xt), .int .i64 0, .string ⟨#[]⟩, .bool false, .int .i64 0, .int .i64 0, .int .i64 0, .int .i64 0, .int .i64 0, .int .i64 0, .int .i64 0, .int .i64 0, .int .i64 0, .int .i64 0, .bool false, .int .i64 0, .int .i64 0, .int .i64 0, .int .i64 0, .int .i64 0, .int .i64 0, .int .i64 0, .int .i64 0, .int .i64 0, .int .i64 0, .bool false, .int .i64 0, .bool false, .int .i64 0, .int .i64 0, .int .i64 0, .int .i64 0, .int .i64 0, .int .i64 0, .int .i64 0, .int .i64 0, .int .i64 0, .int .i64 0, .bool false, .int .i64 0, .bool false, .int .i64 0, .int .i64 0, .int .i64 0, .int .i64 0, .int .i64 0, .int .i64 0, .int .i64 0, .int .i64 0, .int .i64 0, .int .i64 0, .int .i64 0, .int .i64 0, .bool false, .string ⟨#[]⟩, .int .i64 0, .int .i64 0, .slice none 0 0, .slice none 0 0] 65)).drew) = .ok v' w' ∧ (∃ A n cc, v' = .slice A n cc ∧ w'.cell? ⟨g, 55, none⟩ = some (.slice z2.ra z2.rn z2.rc) ∧ w'.frozen? ⟨g, 55, none⟩ = false ∧ (ClAt (fun k => F k ∨ (w11.drew.heap.size ≤ k ∧ k < w'.heap.size)) (w'.setCell ⟨g, 55, none⟩ (.slice A n cc)) g { c2 with made := c.made + 1, sent := pk, recs := c2.recs ++ [⟨c.cred p, step, 0, ⟨xp, xf, xn, xg, xm, xo, xc, xh, xd, ⟨⟨b1, i1⟩, ⟨b2, i2⟩, ⟨b3, i3⟩, ⟨b4, i4⟩, ⟨b5, i5⟩⟩, ⟨b6, i6⟩, xk, xv, xt⟩, repD0⟩] } { z2 with made := c.made + 1, sent := pk, ra := A, rn := n, rc := cc } (l ++ [⟨c.cred p, step, 0, ⟨xp, xf, xn, xg, xm, xo, xc, xh, xd, ⟨⟨b1, i1⟩, ⟨b2, i2⟩, ⟨b3, i3⟩, ⟨b4, i4⟩, ⟨b5, i5⟩⟩, ⟨b6, i6⟩, xk, xv, xt⟩, replyZ⟩]) ∧ Touch F w11.drew (w'.setCell ⟨g, 55, none⟩ (.slice A n cc))) ∧ RowsS33 bc bt #[.int .i64 c.id, .int .i64 (c.made + 1), .int .i64 p.uid, .int .i64 p.gid] #[.int .i64 xp, .string (bs xf), .string (bs xn), .string (bs xg), .string (bs xm), .int .i64 xo, .int .i64 xc, .int .i64 xh, .string (bs xd), .bool b1, .int .i64 i1, .bool b2, .int .i64 i2, .bool b3, .int .i64 i3, .bool b4, .int .i64 i4, .bool b5, .int .i64 i5, .bool b6, .int .i64 i6, .int .i64 xk, .int .i64 xv, .string (bs xt)] w' ∧ RowsS33 bc bt #[.int .i64 c.id, .int .i64 (c.made + 1), .int .i64 p.uid, .int .i64 p.gid] #[.int .i64 xp, .string (bs xf), .string (bs xn), .string (bs xg), .string (bs xm), .int .i64 xo, .int .i64 xc, .int .i64 xh, .string (bs xd), .bool b1, .int .i64 i1, .bool b2, .int .i64 i2, .bool b3, .int .i64 i3, .bool b4, .int .i64 i4, .bool b5, .int .i64 i5, .bool b6, .int .i64 i6, .int .i64 xk, .int .i64 xv, .string (bs xt)] (w'.setCell ⟨g, 55, none⟩ (.slice A n cc))) by
    obtain ⟨v', w', h1, A, n, cc, h2, h3, h4, h5, h6, h7⟩ := hap
    obtain ⟨e1, e2⟩ := h7 bc _ _ bC11.drew (by decide) (by decide)
    obtain ⟨e3, e4⟩ := h7 bt _ _ htb.drew (by decide) (by decide)
    exact ⟨v', w', h1, A, n, cc, h2, h3, h4, ⟨h5, h6⟩, ⟨e1.row 0 4 (by rw [Cred.len]; omega), e3.row 0 24 (by rw [Call.len]; omega)⟩, ⟨e2.row 0 4 (by rw [Cred.len]; omega), e4.row 0 24 (by rw [Call.len]; omega)⟩⟩)
  have HTo := Lib.hid hto
  have hS0 : RowsS33 bc bt #[.int .i64 c.id, .int .i64 (c.made + 1), .int .i64 p.uid, .int .i64 p.gid] #[.int .i64 xp, .string (bs xf), .string (bs xn), .string (bs xg), .string (bs xm), .int .i64 xo, .int .i64 xc, .int .i64 xh, .string (bs xd), .bool b1, .int .i64 i1, .bool b2, .int .i64 i2, .bool b3, .int .i64 i3, .bool b4, .int .i64 i4, .bool b5, .int .i64 i5, .bool b6, .int .i64 i6, .int .i64 xk, .int .i64 xv, .string (bs xt)] w11.drew := ⟨rC, rT⟩
  have HS0 := Lib.hid hS0
  have HSa := Lib.hid (fun (o : Obj) => (show RowsS33 bc bt #[.int .i64 c.id, .int .i64 (c.made + 1), .int .i64 p.uid, .int .i64 p.gid] #[.int .i64 xp, .string (bs xf), .string (bs xn), .string (bs xg), .string (bs xm), .int .i64 xo, .int .i64 xc, .int .i64 xh, .string (bs xd), .bool b1, .int .i64 i1, .bool b2, .int .i64 i2, .bool b3, .int .i64 i3, .bool b4, .int .i64 i4, .bool b5, .int .i64 i5, .bool b6, .int .i64 i6, .int .i64 xk, .int .i64 xv, .string (bs xt)] (w11.drew.alloc o) from ⟨(rowOf_alloc_past w11.drew o bc 0 4 bC11.lt).trans rC, (rowOf_alloc_past w11.drew o bt 0 24 htb.lt).trans rT⟩))
  clear hap hcl hto htb hT11 bC11 hrl2 hS0 rC rT
  go_wp2_with fail
  rw [laterLd_eq 60 (.tmp 163)]
  go_region_held3 (fun U => RowsS33 bc bt #[.int .i64 c.id, .int .i64 (c.made + 1), .int .i64 p.uid, .int .i64 p.gid] #[.int .i64 xp, .string (bs xf), .string (bs xn), .string (bs xg), .string (bs xm), .int .i64 xo, .int .i64 xc, .int .i64 xh, .string (bs xd), .bool b1, .int .i64 i1, .bool b2, .int .i64 i2, .bool b3, .int .i64 i3, .bool b4, .int .i64 i4, .bool b5, .int .i64 i5, .bool b6, .int .i64 i6, .int .i64 xk, .int .i64 xv, .string (bs xt)] U) (first | with_reducible assumption | exact HS0.out | exact HSa.out _) (first
    | (refine step_append_by (R := fun v' w' => (∃ A n cc, v' = .slice A n cc ∧ w'.cell? ⟨g, 55, none⟩ = some (.slice z2.ra z2.rn z2.rc) ∧ w'.frozen? ⟨g, 55, none⟩ = false ∧ (ClAt (fun k => F k ∨ (w11.drew.heap.size ≤ k ∧ k < w'.heap.size)) (w'.setCell ⟨g, 55, none⟩ (.slice A n cc)) g { c2 with made := c.made + 1, sent := pk, recs := c2.recs ++ [⟨c.cred p, step, 0, ⟨xp, xf, xn, xg, xm, xo, xc, xh, xd, ⟨⟨b1, i1⟩, ⟨b2, i2⟩, ⟨b3, i3⟩, ⟨b4, i4⟩, ⟨b5, i5⟩⟩, ⟨b6, i6⟩, xk, xv, xt⟩, repD0⟩] } { z2 with made := c.made + 1, sent := pk, ra := A, rn := n, rc := cc } (l ++ [⟨c.cred p, step, 0, ⟨xp, xf, xn, xg, xm, xo, xc, xh, xd, ⟨⟨b1, i1⟩, ⟨b2, i2⟩, ⟨b3, i3⟩, ⟨b4, i4⟩, ⟨b5, i5⟩⟩, ⟨b6, i6⟩, xk, xv, xt⟩, replyZ⟩]) ∧ Touch F w11.drew (w'.setCell ⟨g, 55, none⟩ (.slice A n cc))) ∧ RowsS33 bc bt #[.int .i64 c.id, .int .i64 (c.made + 1), .int .i64 p.uid, .int .i64 p.gid] #[.int .i64 xp, .string (bs xf), .string (bs xn), .string (bs xg), .string (bs xm), .int .i64 xo, .int .i64 xc, .int .i64 xh, .string (bs xd), .bool b1, .int .i64 i1, .bool b2, .int .i64 i2, .bool b3, .int .i64 i3, .bool b4, .int .i64 i4, .bool b5, .int .i64 i5, .bool b6, .int .i64 i6, .int .i64 xk, .int .i64 xv, .string (bs xt)] w' ∧ RowsS33 bc bt #[.int .i64 c.id, .int .i64 (c.made + 1), .int .i64 p.uid, .int .i64 p.gid] #[.int .i64 xp, .string (bs xf), .string (bs xn), .string (bs xg), .string (bs xm), .int .i64 xo, .int .i64 xc, .int .i64 xh, .string (bs xd), .bool b1, .int .i64 i1, .bool b2, .int .i64 i2, .bool b3, .int .i64 i3, .bool b4, .int .i64 i4, .bool b5, .int .i64 i5, .bool b6, .int .i64 i6, .int .i64 xk, .int .i64 xv, .string (bs xt)] (w'.setCell ⟨g, 55, none⟩ (.slice A n cc)))) (by rfl) (.tmp 164) (.tmp 169) #[60, 60] (by rfl) _ _ (by rfl) (by rfl) HAp.out ?_; rintro v' w12 ⟨A, n, cc, rfl, q55, f55, hK, hS12, hS13⟩)
    | fail)
  all_goals
    obtain ⟨hC12, ht12⟩ := hK
    generalize w12.setCell ⟨g, 55, none⟩ (.slice A n cc) = V at *
    have hb12 := hC12.blk
    have v49 : V.cell? ⟨g, 49, none⟩ = some (.bool z2.busy) := hb12.cell 49
    have v53 : V.cell? ⟨g, 53, none⟩ = some (.int .i64 z2.due) := hb12.cell 53
    have fV := hb12.frozen
    have hnw8 : IntKind.i64.wrap (now + 8) = now + 8 := IntWalk.i64_in _ (by omega)
    have HC12 := Lib.hid hC12
    have HT12 := Lib.hid ht12
    have HB12 := Lib.hid hb12
    clear hC12 ht12 hb12
    go_upto_region 16 with fail
    obtain ⟨V2, hV2⟩ : ∃ U, U = (V.setCell ⟨g, 49, none⟩ (.bool true)).setCell ⟨g, 53, none⟩ (.int .i64 (now + 8)) := ⟨_, rfl⟩
    rw [← hV2]
    have ht2 : Touch (fun k => k = g) V V2 := by rw [hV2]; exact ((Touch.refl (fun k => k = g) V).setCell (p := ⟨g, 49, none⟩) (.inl rfl) _).setCell (p := ⟨g, 53, none⟩) (.inl rfl) _
    have hb2 := (HB12.out.set_ 49 (.bool true)).set_ 53 (.int .i64 (now + 8))
    rw [clnt_set49, clnt_set53, ← hV2] at hb2
    have i12 := HC12.out.is
    have hC2 := HC12.out.own ht2 hb2 (c' := { c2 with made := c.made + 1, sent := pk, recs := c2.recs ++ [⟨c.cred p, step, 0, ⟨xp, xf, xn, xg, xm, xo, xc, xh, xd, ⟨⟨b1, i1⟩, ⟨b2, i2⟩, ⟨b3, i3⟩, ⟨b4, i4⟩, ⟨b5, i5⟩⟩, ⟨b6, i6⟩, xk, xv, xt⟩, repD0⟩], busy := true, due := now + 8 }) ⟨i12.id, i12.self, i12.server, i12.ps, i12.now, rfl, i12.sent, rfl, i12.made⟩ rfl rfl rfl rfl rfl rfl rfl rfl
    have r50 : rowOf V2 g 50 3 = some pk.vals.toArray := hb2.row 50 3 (by show 50 + 3 ≤ 56; decide)
    have HC2 := Lib.hid hC2
    have HT2 := Lib.hid (HT12.out.then_ (ht2.mono fun k _ hk => by subst hk; exact HFg.out))
    clear hV2 ht2 hb2 i12 hC2 v49 v53 fV hnw8 HC12 HT12 HB12
    go_wp2
    go_ret
    have hC2 := HC2.out
    have hB2 : Below V2.heap.size V2 (V2.alloc (.cells pk.vals.toArray 40)) := (Below.refl _ _).alloc (Nat.le_refl _) _
    have hs11 := HTo.out.size
    have hs2 := HT2.out.size
    have hd11 : w11.drew.heap.size = w11.heap.size := rfl
    have hnx : c.next step now = ({ c2 with made := c.made + 1, sent := pk, recs := c2.recs ++ [⟨c.cred p, step, 0, ⟨xp, xf, xn, xg, xm, xo, xc, xh, xd, ⟨⟨b1, i1⟩, ⟨b2, i2⟩, ⟨b3, i3⟩, ⟨b4, i4⟩, ⟨b5, i5⟩⟩, ⟨b6, i6⟩, xk, xv, xt⟩, repD0⟩], busy := true, due := now + 8 }, [pk]) := by
      have h1 := Hc2.out
      have h2 := HTX.out
      have h3 := HPK.out
      have h4 : pk = c.packet p := by rw [h3, HPB.out]; rfl
      unfold ClD.next
      rw [hp, h1, h4]
      dsimp only
      rw [← h2]
    rw [hnx]
    refine ⟨_, rfl, ?_, ⟨_, _, _, hC2.below hB2, fun k hk => ?_⟩, ?_⟩
    · have := RowS.made V2 (b := V2.heap.size) (B := w.heap.size) (sz := 3) (k := 1) 40 [pk.vals] (fun r hr => by rw [List.mem_singleton] at hr; subst hr; rfl) rfl (by omega) (by simp) rfl
      rw [show [pk.vals].flatten = pk.vals by simp] at this
      exact this
    · rcases hk with hk | hk
      · exact .inl hk
      · exact .inr (by omega)
    · have h0 : Touch F w w11.drew := (HTo.out.mono fun k _ hk => by subst hk; exact HFg.out).drew
      exact (h0.then_ HT2.out).then_ (Touch.of_below hB2 _)
end Go.Proofs.YtfjflkmhhbhceaaGreatDoor


/-
  Layer 33, walks: the next call is made: from the 9th region on (printed by wip/tools/gennext33.py). Condition: numbers within their bounds.
-/
namespace Go.Proofs.YtfjflkmhhbhceaaGreatDoor
open Go.RowKit
attribute [local go_sem ↓] Go.wp_at_zero Go.wp_at_succ
attribute [local go_sem] rowAt_ptr rowOf_drew rowOf_drewN rowOf_alloc_past rowOf_new
attribute [local go_sem ↓] st33Text st33Part st33Call st33Cred st33Packet ld33Part ld33Call ld33Cred ld33Packet exSlRecd1 exSlPacket1

attribute [local go_sem] thereB_drew thereB_drewN thereB_new thereB_past putsW_drew putsW_new putsW_past rowOf_far rowOf_putsFar cell_putsFar cell_putsBelow frozen_puts thereB_puts thereB_set putsW_size ptrAt blkAt offAt allV33 oneV33 cellsOf_agg

attribute [local go_sem low] rowV33_agg

attribute [local go_sem] putsW_call putsW_cred Call.len CPart.len Cred.len Packet.len rowV33_call rowV33_part rowV33_packet

attribute [local go_sem ↓] exRecd33

attribute [local go_sem] laterLd aggN33 intV33 zerosR33 List.cons_append List.nil_append

set_option maxRecDepth 20000 in
set_option maxHeartbeats 10000000 in
theorem next33_t1 (F : Nat → Prop) (w : World) (g bx bt : Nat) (c c2 : ClD) (z2 : Clnt) (l : List Recd) (step now : Int) (p : CPart) (ps : List CPart) (sx tx : Call) (pb : List UInt8) (hgl : g < w.heap.size) (hp : c.parts = p :: ps) (hG : ClGood c) (hpg : PartG p) (hnow : z2.now = p) (hrl : c.recs.length ≤ 1000000) (hnw : 0 ≤ now ∧ now ≤ 1099511627776) (Hc2 : Hid (c2 = { c with parts := ps, now := p })) (HSX : Hid (sx = c.sends p)) (HTX : Hid (tx = c.tells p)) (HPB : Hid (pb = putBytes (c.message p))) (wc : World)
    (hcut : TwoC F g bx bt c2 z2 l w sx tx wc) (y3 y4 y5 y6 y9 y10 y11 y12 y13 y14 y15 y16 y17 y18 y19 y20 y21 y22 y23 y24 y25 y26 y27 y28 y29 y30 y31 y32 y33 y34 y35 y36 y37 y38 y39 y40 y41 y42 y43 y44 y45 y46 y47 y48 y49 y50 y51 y52 y53 y54 y55 y56 y57 y58 y59 y60 y61 y62 y63 y64 y65 y66 y67 y68 y69 y70 y71 y72 y73 y74 y75 y76 y77 y78 y79 y80 y81 y82 y83 y84 y85 y86 y87 y88 y89 y90 y91 y92 y93 y94 y95 y96 y97 y98 y99 y100 y101 y102 y103 y104 y105 y106 y107 y108 y109 y110 y111 y112 y113 y114 y115 y116 y117 y118 y119 y120 y121 y122 y123 y124 y125 y126 y127 y128 y129 y130 y131 y132 y133 y134 y135 y136 y137 y138 y139 y140 y141 y142 y143 y144 y145 y146 y147 y148 y149 y150 y151 y152 y153 y154 y155 y156 y157 y158 y159 y160 y161 y162 y163 y164 y165 y166 y167 y168 y169 y170 y171 y172 y173 y174 y175 y176 y177 y178 y179 y180 y181 y182 y183 y184 y185 : Value) :
    Code.wp Tryz.prog (codeFrom33 9 (Tryz.f38.body.getD .ret)) (bodyPost Tryz.prog Tryz.f38 (NextP F g (c.next step now).1 (c.next step now).2 w)) ⟨#[.pointer (some ⟨g, 0, none⟩), .int .i64 step, .int .i64 now, y3, y4, y5, y6, .pointer (some ⟨bx, 0, none⟩), .pointer (some ⟨bt, 0, none⟩), y9, y10, y11, y12, y13, y14, y15, y16, y17, y18, y19, y20, y21, y22, y23, y24, y25, y26, y27, y28, y29, y30, y31, y32, y33, y34, y35, y36, y37, y38, y39, y40, y41, y42, y43, y44, y45, y46, y47, y48, y49, y50, y51, y52, y53, y54, y55, y56, y57, y58, y59, y60, y61, y62, y63, y64, y65, y66, y67, y68, y69, y70, y71, y72, y73, y74, y75, y76, y77, y78, y79, y80, y81, y82, y83, y84, y85, y86, y87, y88, y89, y90, y91, y92, y93, y94, y95, y96, y97, y98, y99, y100, y101, y102, y103, y104, y105, y106, y107, y108, y109, y110, y111, y112, y113, y114, y115, y116, y117, y118, y119, y120, y121, y122, y123, y124, y125, y126, y127, y128, y129, y130, y131, y132, y133, y134, y135, y136, y137, y138, y139, y140, y141, y142, y143, y144, y145, y146, y147, y148, y149, y150, y151, y152, y153, y154, y155, y156, y157, y158, y159, y160, y161, y162, y163, y164, y165, y166, y167, y168, y169, y170, y171, y172, y173, y174, y175, y176, y177, y178, y179, y180, y181, y182, y183, y184, y185], []⟩ wc := by
  change Code.wp _ (Code.seq (Code.region 9 _ _) _) _ _ _
  have hcm : z2.made = c.made := by rw [hcut.cl.is.made, Hc2.out]
  have hgm := hG.made
  have hmw : IntKind.i64.wrap (c.made + 1) = c.made + 1 := IntWalk.i64_in _ (by omega)
  have c54 : wc.cell? ⟨g, 54, none⟩ = some (.int .i64 c.made) := by rw [hcut.cl.blk.cell 54, ← hcm]; rfl
  have f54 := hcut.cl.blk.frozen 54
  have HQ := Lib.hid hcut
  have hgc := Lib.hid hgm
  clear hcut hgm
  go_upto_region 10 with fail
  obtain ⟨w7, hw7⟩ : ∃ V, V = wc.setCell ⟨g, 54, none⟩ (.int .i64 (c.made + 1)) := ⟨_, rfl⟩
  rw [← hw7]
  have hT7 : TwoC F g bx bt { c2 with made := c.made + 1 } { z2 with made := c.made + 1 } l w sx tx w7 := by
    have h := HQ.out
    have ht : Touch (fun k => k = g) wc w7 := by rw [hw7]; exact (Touch.refl (fun k => k = g) wc).setCell (p := ⟨g, 54, none⟩) (.inl rfl) _
    have hb := h.cl.blk.set_ 54 (.int .i64 (c.made + 1))
    rw [clnt_set54, ← hw7] at hb
    have i := h.cl.is
    have := h.lx
    have := h.lt
    exact ⟨h.xb.touch ht (by omega), h.tb.touch ht (by omega), h.cl.own ht hb ⟨i.id, i.self, i.server, i.ps, i.now, i.busy, i.sent, i.due, rfl⟩ rfl rfl rfl rfl rfl rfl rfl rfl, h.ne, h.lx, h.lt, h.to.then_ ht⟩
  clear hw7 c54 f54 hmw HQ
  have hbk := hT7.cl.blk
  have d0 : w7.cell? ⟨g, 0, none⟩ = some (.int .i64 c.id) := by rw [hbk.cell 0]; show some (Value.int .i64 z2.id) = _; rw [hT7.cl.is.id]; show some (Value.int .i64 c2.id) = _; rw [Hc2.out]
  have d54 : w7.cell? ⟨g, 54, none⟩ = some (.int .i64 (c.made + 1)) := hbk.cell 54
  have d47 : w7.cell? ⟨g, 47, none⟩ = some (.int .i64 p.uid) := by rw [hbk.cell 47, ← hnow]; rfl
  have d48 : w7.cell? ⟨g, 48, none⟩ = some (.int .i64 p.gid) := by rw [hbk.cell 48, ← hnow]; rfl
  have hg7 : g < w7.heap.size := hbk.lt
  have HT7 := Lib.hid hT7
  clear hT7 hbk
  go_region
  change Exit.then _ _ _ _ (w7.alloc (.cells (c.cred p).vals.toArray 63)).drew
  have bC := (Blk.new w7 63 (c.cred p).vals).drew
  have hB8 : Below w7.heap.size w7 (w7.alloc (.cells (c.cred p).vals.toArray 63)).drew := ((Below.refl _ _).alloc (Nat.le_refl _) _).drew
  generalize (w7.alloc (.cells (c.cred p).vals.toArray 63)).drew = w8 at *
  have hT8 := HT7.out.below hB8
  have rX : rowOf w8 bx 0 24 = some sx.vals.toArray := hT8.xb.row 0 24 (by rw [Call.len]; omega)
  have hsg : CallG sx := by rw [HSX.out]; exact sends_g (c := c) hpg.call
  have hsp : sx.proc = p.c.proc := by rw [HSX.out]; exact sends_proc c p
  have hshort := cPut_short (c.sends p)
  have KP := Lib.hid (fun W => put7_any sx W hsg.offset hsg.cookie hsg.verf hsg.set hsg.guard)
  obtain ⟨body, hbody⟩ : ∃ b, b = (cPut sx).1 := ⟨_, rfl⟩
  have KM : ∀ W, Calls Tryz.prog 87 #[.agg #[.int .i64 (c.made + 1), .bool false, .bool false, .int .i64 p.c.proc, .int .i64 c.id, .int .i64 (c.made + 1), .int .i64 p.uid, .int .i64 p.gid, .int .i64 0, .string (bs body)]] W fun e w' => (∃ er, e = .returned (.tuple #[.string (bs pb), .int .i64 er])) ∧ Below W.heap.size W w' := by
    intro W
    rw [hbody, HSX.out, HPB.out]
    refine Calls.mono (put9_any (c.message p) W hshort) ?_
    rintro e w' ⟨rfl, hb⟩
    refine ⟨?_, hb⟩
    unfold Message.putV putBytes
    split
    · exact ⟨_, rfl⟩
    · exact ⟨_, rfl⟩
  replace KM := Lib.hid KM
  have HBody := Lib.hid hbody
  have HT8 := Lib.hid hT8
  have Hsp := Lib.hid hsp
  have HBC := Lib.hid bC
  have hl7 := Lib.hid bC.lt
  clear d0 d54 d47 d48 hg7 hB8 bC hT8 hsg hshort hbody hsp HT7
  go_wp2_with fail
  refine (KP.out _).mono ?_
  rintro e w9 ⟨rfl, hb9⟩
  rw [← HBody.out]
  have hT9 := HT8.out.below hb9
  have bC9 := HBC.out.stays hb9
  have hbk := hT9.cl.blk
  have d54 : w9.cell? ⟨g, 54, none⟩ = some (.int .i64 (c.made + 1)) := hbk.cell 54
  have x0 : w9.cell? ⟨bx, 0, none⟩ = some (.int .i64 p.c.proc) := by rw [← Hsp.out]; exact hT9.xb.cell 0
  have rC : rowOf w9 w7.heap.size 0 4 = some #[.int .i64 c.id, .int .i64 (c.made + 1), .int .i64 p.uid, .int .i64 p.gid] := bC9.row 0 4 (by rw [Cred.len]; omega)
  have hg9 : g < w9.heap.size := hbk.lt
  have hx9 : bx < w9.heap.size := hT9.xb.lt
  have hc9 : w7.heap.size < w9.heap.size := bC9.lt
  have HS12 := Lib.hid (fun (V : World) (h : Below w9.drew.heap.size w9.drew V) => (show V.cell? ⟨g, 54, none⟩ = some (.int .i64 (c.made + 1)) ∧ V.cell? ⟨bx, 0, none⟩ = some (.int .i64 p.c.proc) ∧ rowOf V w7.heap.size 0 4 = some #[.int .i64 c.id, .int .i64 (c.made + 1), .int .i64 p.uid, .int .i64 p.gid] from
    ⟨(h.cell (p := ⟨g, 54, none⟩) hg9).trans d54, (h.cell (p := ⟨bx, 0, none⟩) hx9).trans x0, (rowOf_below h hc9 0 4).trans rC⟩))
  have HT9 := Lib.hid hT9
  have HBC9 := Lib.hid bC9
  clear hb9 hT9 bC9 hbk rX HT8 HBC KP
  go_wp2_with fail
  go_region_held3 (fun U => U.cell? ⟨g, 54, none⟩ = some (.int .i64 (c.made + 1)) ∧ U.cell? ⟨bx, 0, none⟩ = some (.int .i64 p.c.proc) ∧ rowOf U w7.heap.size 0 4 = some #[.int .i64 c.id, .int .i64 (c.made + 1), .int .i64 p.uid, .int .i64 p.gid]) (first | with_reducible assumption | exact ⟨d54, x0, rC⟩) (first
    | (go_at_call 87; refine (KM.out _).mono ?_; rintro e w10 ⟨⟨er, rfl⟩, hb10⟩; have s10 := HS12.out w10 hb10)
    | fail)
  have hst10 : Below w9.heap.size w9 w10 := below_then (Below.refl w9.heap.size w9).drew hb10
  have hT10 := HT9.out.below hst10
  have bC10 := HBC9.out.stays hst10
  clear s10 hst10 hb10 d54 x0 rC hg9 hx9 hc9
  simp only [Exit.then]
  apply_assumption
  exact next33_t2 F w g bx bt c c2 z2 l step now p ps sx tx w7.heap.size pb hgl hp hrl hnw Hc2 HTX HPB w10 hT10 bC10 _ _ _ _ _ _ _ _ _ _ _ _ _ _ _ _ _ _ _ _ _ _ _ _ _ _ _ _ _ _ _ _ _ _ _ _ _ _ _ _ _ _ _ _ _ _ _ _ _ _ _ _ _ _ _ _ _ _ _ _ _ _ _ _ _ _ _ _ _ _ _ _ _ _ _ _ _ _ _ _ _ _ _ _ _ _ _ _ _ _ _ _ _ _ _ _ _ _ _ _ _ _ _ _ _ _ _ _ _ _ _ _ _ _ _ _ _ _ _ _ _ _ _ _ _ _ _ _ _ _ _ _ _ _ _ _ _ _ _ _ _ _ _ _ _ _ _ _ _ _ _ _ _ _ _ _ _ _ _ _ _ _ _ _ _ _ _ _ _ _ _ _ _ _ _ _ _ _ _
end Go.Proofs.YtfjflkmhhbhceaaGreatDoor
