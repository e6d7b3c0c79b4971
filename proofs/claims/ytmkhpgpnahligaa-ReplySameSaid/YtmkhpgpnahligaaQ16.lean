/-
  Layer 8, walks: the law ReplySame. Conditions: machine lists.
-/
import Derived.Test.YtmkhpgpnahligaaQ13
import Derived.Test.YtmkhpgpnahligaaQ14
import Derived.Test.YtmkhpgpnahligaaQ15
namespace Go.Proofs.Ytmkhpgpnahligaa
open Go.RowKit
attribute [local go_sem ↓] Go.wp_at_zero Go.wp_at_succ
attribute [local go_sem] rowAt_ptr rowOf_drew rowOf_drewN rowOf_alloc_past rowOf_new
attribute [local go_sem ↓] ldReply

attribute [local go_sem] Reply.at0 Reply.lat0 Reply.at1 Reply.lat1 Reply.at2 Reply.lat2 Reply.at3 Reply.lat3 Reply.at4 Reply.lat4 Reply.at5 Reply.lat5 Reply.at6 Reply.lat6 Reply.at7 Reply.lat7 Reply.at8 Reply.lat8 Reply.at9 Reply.lat9 Reply.at10 Reply.lat10 Reply.at11 Reply.lat11 Reply.at12 Reply.lat12 Reply.at13 Reply.lat13 Reply.at14 Reply.lat14 Reply.at15 Reply.lat15 Reply.at16 Reply.lat16 Reply.at17 Reply.lat17 Reply.at18 Reply.lat18 Reply.at19 Reply.lat19 Reply.at20 Reply.lat20 Reply.at21 Reply.lat21 Reply.at22 Reply.lat22 Reply.at23 Reply.lat23 Reply.at24 Reply.lat24 Reply.at25 Reply.lat25 Reply.at26 Reply.lat26 Reply.at27 Reply.lat27 Reply.at28 Reply.lat28 Reply.at29 Reply.lat29 Reply.at30 Reply.lat30 Reply.at31 Reply.lat31 Reply.at32 Reply.lat32 Reply.at33 Reply.lat33 Reply.at34 Reply.lat34 Reply.at35 Reply.lat35 Reply.at36 Reply.lat36 Reply.at37 Reply.lat37 Reply.at38 Reply.lat38 Reply.at39 Reply.lat39 Reply.at40 Reply.lat40 Reply.at41 Reply.lat41 Reply.at42 Reply.lat42 Reply.at43 Reply.lat43 Reply.at44 Reply.lat44 Reply.at45 Reply.lat45 Reply.at46 Reply.lat46 Reply.at47 Reply.lat47 Reply.at48 Reply.lat48 Reply.at49 Reply.lat49 Reply.at50 Reply.lat50 Reply.at51 Reply.lat51 Reply.at52 Reply.lat52 Reply.at53 Reply.lat53 Reply.at54 Reply.lat54 Reply.at55 Reply.lat55 Reply.at56 Reply.lat56 Reply.at57 Reply.lat57 Reply.sub0_58 Reply.lsub0_58 Reply.sub2_11 Reply.lsub2_11 Reply.sub3_10 Reply.lsub3_10 Reply.sub13_11 Reply.lsub13_11 Reply.sub14_10 Reply.lsub14_10 Reply.sub24_13 Reply.lsub24_13 Reply.sub24_2 Reply.lsub24_2 Reply.sub26_11 Reply.lsub26_11 Reply.sub27_10 Reply.lsub27_10 Reply.sub37_13 Reply.lsub37_13 Reply.sub37_2 Reply.lsub37_2 Reply.sub39_11 Reply.lsub39_11 Reply.sub40_10 Reply.lsub40_10 Reply.len Entry.at0 Entry.lat0 Entry.at1 Entry.lat1 Entry.at2 Entry.lat2 Entry.at3 Entry.lat3 Entry.at4 Entry.lat4 Entry.at5 Entry.lat5 Entry.at6 Entry.lat6 Entry.at7 Entry.lat7 Entry.at8 Entry.lat8 Entry.at9 Entry.lat9 Entry.at10 Entry.lat10 Entry.at11 Entry.lat11 Entry.at12 Entry.lat12 Entry.at13 Entry.lat13 Entry.at14 Entry.lat14 Entry.sub0_15 Entry.lsub0_15 Entry.sub3_11 Entry.lsub3_11 Entry.sub4_10 Entry.lsub4_10 Entry.len

theorem RepL.same_clone {r x : Reply} {es : List Entry} {us : List Int} (h : r.bare = x.bare) : (RepL.mk r es us).same ⟨x, es, us⟩ = true := by
  unfold RepL.same
  simp only [h, decide_true, Bool.and_self]
theorem row58 {w : World} {b : Nat} {T : TypeId} (x : Reply) (h : Blk w b T x.vals) : rowOf w b 0 58 = some x.vals.toArray := rowOf_of h.range (Reply.len x) (by omega)

theorem same4 (x y : RepL) (r : Reply) (w : World) (hx : x.There w) (hy : y.There w) (hc : (RepL.mk r x.es x.us).There w) (hr : r.bare = x.r.bare) :
    (∀ W, Stb w W → Calls Try.prog 20 #[.agg x.r.vals.toArray, .agg y.r.vals.toArray] W fun e w' => e = .returned (.bool (x.same y)) ∧ Below W.heap.size W w') ∧
    (∀ W, Stb w W → Calls Try.prog 21 #[.agg x.r.vals.toArray, .agg y.r.vals.toArray] W fun e w' => e = .returned (.bool (x.same y)) ∧ Below W.heap.size W w') ∧
    (∀ W, Stb w W → Calls Try.prog 21 #[.agg r.vals.toArray, .agg x.r.vals.toArray] W fun e w' => e = .returned (.bool true) ∧ Below W.heap.size W w') ∧
    (∀ W, Stb w W → Calls Try.prog 20 #[.agg r.vals.toArray, .agg x.r.vals.toArray] W fun e w' => e = .returned (.bool true) ∧ Below W.heap.size W w') := by
  have hs : (RepL.mk r x.es x.us).same x = true := RepL.same_clone (x := x.r) hr
  refine ⟨fun W h => sameL_any x y W (hx.below h.below) (hy.below h.below), fun W h => refSame8_any x y W (hx.below h.below) (hy.below h.below), fun W h => ?_, fun W h => ?_⟩
  · have := refSame8_any ⟨r, x.es, x.us⟩ x W (hc.below h.below) (hx.below h.below)
    rw [hs] at this
    exact this
  · have := sameL_any ⟨r, x.es, x.us⟩ x W (hc.below h.below) (hx.below h.below)
    rw [hs] at this
    exact this

theorem flip_ne (z : Int) : bits .xor .i64 (if IntKind.i64.signed = true then -1 else 9223372036854775807) z ≠ z := by
  intro h
  have e : BitVec.ofInt 64 (-1) ^^^ BitVec.ofInt 64 z = ~~~ (BitVec.ofInt 64 z) := by
    have : BitVec.ofInt 64 (-1) = BitVec.allOnes 64 := by decide
    rw [this, BitVec.allOnes_xor]
  have h2 : IntKind.i64.wrap ((BitVec.ofInt 64 (-1) ^^^ BitVec.ofInt 64 z).toNat : Int) = z := h
  rw [e, BitVec.toNat_not, BitVec.toNat_ofInt] at h2
  simp only [IntKind.wrap, IntKind.bits, IntKind.signed] at h2
  omega
theorem own_apart {w : World} {B B' : Nat} {T T' : TypeId} {sz sz' n n' : Nat} {v v' : Value} {xs xs' : List Value} (h : w.ownsRow B T sz v n xs) (h' : w.ownsRow B' T' sz' v' n' xs') (hne : T ≠ T') (k : Nat) (hk : v.ownBlock = some k) : v'.ownBlock ≠ some k := by
  intro hk'
  rcases h.2 with ⟨rfl, _⟩ | ⟨g, cap, cur, rfl, _, hh, _⟩
  · simp [Value.ownBlock] at hk
  · rcases h'.2 with ⟨rfl, _⟩ | ⟨g', cap', cur', rfl, _, hh', _⟩
    · simp [Value.ownBlock] at hk'
    · have e1 : g = k := by simpa [Value.ownBlock] using hk
      have e2 : g' = k := by simpa [Value.ownBlock] using hk'
      subst e1
      subst e2
      rw [hh] at hh'
      injection hh' with hh'
      injection hh' with _ ht
      exact hne ht
theorem RowS.gen {w : World} {B g cap : Nat} {T : TypeId} {e : Entry} {l : List Entry} (h : RowS w B T 15 (.slice (some ⟨g, 0, none⟩) (e :: l).length cap) ((e :: l).map Entry.vals)) (z : Int) :
    RowS (w.setCell ⟨g, 0, none⟩ (.int .i64 z)) B T 15 (.slice (some ⟨g, 0, none⟩) (e :: l).length cap) (({ e with gen := z } :: l).map Entry.vals) := by
  refine ⟨?_, ?_⟩
  · intro r hr
    obtain ⟨x, _, rfl⟩ := List.mem_map.1 hr
    rfl
  · have hown := h.2
    rw [List.length_map] at hown ⊢
    exact (hown.stored 0 (.int .i64 z)).1

set_option maxRecDepth 20000 in
set_option maxHeartbeats 3200000 in
theorem replySameLaw_any (x y : RepL) (w : World) (hx : x.There w) (hy : y.There w) :
    Calls Try.prog 6 #[.agg x.vals.toArray, .agg y.vals.toArray] w fun e w' => e = .returned (.bool true) ∧ Below w.heap.size w w' := by
  obtain ⟨hX, hY, hB, hs1⟩ := chain2_blks w x.r.vals y.r.vals 46 46
  have hx := hx.below hB
  have hy := hy.below hB
  obtain ⟨w1, hw1⟩ : ∃ u, u = (w.alloc (.cells x.r.vals.toArray 46)).alloc (.cells y.r.vals.toArray 46) := ⟨_, rfl⟩
  rw [← hw1] at hX hY hB hx hy hs1
  have HW1 := Lib.hid hw1
  have HB := Lib.hid hB
  have HX := Lib.hid hx
  have HY := Lib.hid hy
  have r0 := row58 _ hX
  have r1 := row58 _ hY
  have l0 := hX.lt
  have l1 := hY.lt
  clear hw1 hX hY hB hx hy
  unfold RepL.vals
  go_enter Try.func6, Try.ntmps6
  go_upto_region 1 with fail
  change Code.wp _ _ _ _ ((w.alloc (.cells x.r.vals.toArray 46)).alloc (.cells y.r.vals.toArray 46))
  rw [← HW1.out]
  clear HW1
  go_wp2_with fail
  refine (refLarge8_any x w1 HX.out).mono ?_
  rintro e w2 ⟨b1, rfl, hs, hb⟩
  cases b1 with
  | true =>
    clear hs
    go_wp2_with fail
    refine (known8_any _).mono ?_
    rintro e w3 ⟨rfl, hb3⟩
    go_wp2
    go_ret
    exact ⟨rfl, below_then HB.out (below_then hb hb3)⟩
  | false =>
    have hs2 := Stb.of hb
    have HS1 := Lib.hid (hs rfl)
    have HB2 := Lib.hid hb
    clear hs hb
    go_wp2_with fail
    refine (refLarge8_any y _ (HY.out.below HB2.out)).mono ?_
    rintro e w3 ⟨b2, rfl, hs, hb⟩
    cases b2 with
    | true =>
      clear hs
      go_wp2_with fail
      refine (known8_any _).mono ?_
      rintro e w4 ⟨rfl, hb4⟩
      go_wp2
      go_ret
      exact ⟨rfl, below_then HB.out (below_then HB2.out (below_then hb hb4))⟩
    | false =>
      clear hs
      have hB3 := below_then HB2.out hb
      have hs3 := Stb.of hB3
      have hx := HX.out.below hB3
      have hy := HY.out.below hB3
      have r0 := (hs3.2.1 _ 0 58 l0).trans r0
      have r1 := (hs3.2.1 _ 0 58 l1).trans r1
      have l0 := Nat.lt_of_lt_of_le l0 hB3.size
      have l1 := Nat.lt_of_lt_of_le l1 hB3.size
      have HB3 := Lib.hid (below_then HB.out hB3)
      obtain ⟨hn1, hn2⟩ := HS1.out
      clear hs2 hs3 HB2 HB HX HY HS1 hb hB3 hs1
      have HX := Lib.hid hx
      have HY := Lib.hid hy
      have hc := Lib.hid (clone8_any x w3 hx (by omega) (by omega))
      clear hx hy
      go_upto_region 4 with (first
        | (go_at_call 19; refine hc.out.mono ?_; rintro e w4 ⟨r, rfl, hr, hT, hR, -, hb⟩; have hs4 := Stb.of hb)
        | (refine wpList_new_struct (by rfl) (by rfl) 46 (by rfl) _ _ (by rfl) r.vals infoReply (by rfl) (by rfl) (Reply.one _) (by rfl) (by rfl) ?_)
        | fail)
      have hZ := Blk.new w4 46 r.vals
      have hb5 : Below w4.heap.size w4 (w4.alloc (.cells r.vals.toArray 46)) := (Below.refl _ _).alloc (Nat.le_refl _) _
      have hT5 := hT.below hb5
      have hx := HX.out.below (below_then hb hb5)
      have hy := HY.out.below (below_then hb hb5)
      have hs5 := Stb.of (below_then hb hb5)
      have q0 := (hs5.2.1 _ 0 58 l0).trans r0
      have q1 := (hs5.2.1 _ 0 58 l1).trans r1
      have q5 := row58 _ hZ
      have p5 : (w4.alloc (.cells r.vals.toArray 46)).cell? ⟨w4.heap.size, 56, none⟩ = some (.slice r.ea x.es.length r.ec) := by rw [hZ.cell 56, ← hT.ne]; rfl
      have l5 := hZ.lt
      have m0 := Nat.lt_of_lt_of_le l0 (below_then hb hb5).size
      have m1 := Nat.lt_of_lt_of_le l1 (below_then hb hb5).size
      have HB5 := Lib.hid (below_then HB3.out (below_then hb hb5))
      clear hs5 hs4 hZ hb5 hT hR hb HB3 HX HY r0 r1 l0 l1 hc
      generalize w4.alloc (.cells r.vals.toArray 46) = w5 at *
      obtain ⟨c1, c2, c3, c4⟩ := same4 x y r w5 hx hy hT5 hr
      have HF := Lib.hid (And.intro hx (And.intro hy (And.intro hT5 hr)))
      clear hx hy hT5 hr
      generalize hsv : x.same y = sv at c1 c2
      have C1 := Lib.hid c1
      have C2 := Lib.hid c2
      have C3 := Lib.hid c3
      have C4 := Lib.hid c4
      clear hsv c1 c2 c3 c4
      go_region_held3 (fun W => Stb w5 W) (first | exact Stb.start | assumption | (exact Stb.alloc (by assumption) _) | (exact Stb.call (by assumption) (by assumption))) (first
        | (go_at_call_of 20 (y.r); refine (C1.out _ (by assumption)).mono ?_; rintro e w6 ⟨rfl, hb⟩)
        | (go_at_call_of 21 (y.r); refine (C2.out _ (by assumption)).mono ?_; rintro e w6 ⟨rfl, hb⟩)
        | (go_at_call_of 21 (r); refine (C3.out _ (by assumption)).mono ?_; rintro e w6 ⟨rfl, hb⟩)
        | (go_at_call_of 20 (r); refine (C4.out _ (by assumption)).mono ?_; rintro e w6 ⟨rfl, hb⟩)
        | fail)
      have hs6 : Stb w5 w6 := by assumption
      clear C1 C2 C3 C4
      have hb6 := hs6.below
      obtain ⟨hx, hy, hT5, hr⟩ := HF.out
      have p6 := (hs6.1 _ 56 l5).trans p5
      have k0 := (hs6.2.1 _ 0 58 m0).trans q0
      have k5 := (hs6.2.1 _ 0 58 l5).trans q5
      have hx6 := hx.below hb6
      have hT6 := hT5.below hb6
      have n0 := Nat.lt_of_lt_of_le m0 hb6.size
      have n5 := Nat.lt_of_lt_of_le l5 hb6.size
      have HB6 := Lib.hid (below_then HB5.out hb6)
      have HX := Lib.hid hx6
      have HT := Lib.hid hT6
      have HR := Lib.hid hr
      have hc := Lib.hid (clone8_any x w6 hx6 (by omega) (by omega))
      clear hs6 hb6 hx hy hT5 hx6 hT6 p5 q0 q1 q5 m0 m1 l5 HB5 HF hr
      go_upto_region 7 with (first
        | (go_at_call 19; refine hc.out.mono ?_; rintro e w7 ⟨d, rfl, hd, hD, hDR, hDU, hb⟩; have hs7 := Stb.of hb)
        | (refine wpList_new_struct (by rfl) (by rfl) 46 (by rfl) _ _ (by rfl) d.vals infoReply (by rfl) (by rfl) (Reply.one _) (by rfl) (by rfl) ?_)
        | fail)
      have hZ := Blk.new w7 46 d.vals
      have hb8 : Below w7.heap.size w7 (w7.alloc (.cells d.vals.toArray 46)) := (Below.refl _ _).alloc (Nat.le_refl _) _
      have d56 : (w7.alloc (.cells d.vals.toArray 46)).cell? ⟨w7.heap.size, 56, none⟩ = some (.slice d.ea x.es.length d.ec) := by rw [hZ.cell 56, ← hD.ne]; rfl
      have p8 := ((Stb.of (below_then hb hb8)).1 _ 56 n5).trans p6
      have hB8 := Lib.hid (below_then hb hb8)
      have hD8 := hD.below hb8
      have hR8 := hDR.stays hb8
      have hU8 := hDU.stays hb8
      have hen := hD.ne
      clear hb8 hb hs7 hc p6 hD hDR hDU
      obtain ⟨w8, hw8⟩ : ∃ u, u = w7.alloc (.cells d.vals.toArray 46) := ⟨_, rfl⟩
      rw [← hw8] at hZ d56 p8 hB8 hD8 hR8 hU8 ⊢
      clear hw8
      by_cases h0 : 0 < (x.es.length : Int)
      · have h0n : 0 < x.es.length := by omega
        obtain ⟨g, cap, hg6, hv⟩ : ∃ g cap, w6.heap.size ≤ g ∧ Value.slice d.ea d.en d.ec = .slice (some ⟨g, 0, none⟩) (x.es.map Entry.vals).length cap := by
          rcases hR8.2.2 with ⟨_, h⟩ | ⟨g, cap, cur, hv, hg, _⟩
          · rw [List.length_map] at h; omega
          · exact ⟨g, cap, hg, hv⟩
        injection hv with hea hen2 hec
        rw [hea, hen, hec] at hR8
        rw [hea, hec] at d56
        have hown := hR8.2
        rw [List.length_map] at hown
        have hfr := hown.frozenAt 0
        obtain ⟨b, off, hA, hblt, -, hcc⟩ := rowCell8 Entry.len (by omega) hD8.e h0n
        rw [hea] at hA
        injection hA with hA
        injection hA with hbg hoff _
        subst hbg hoff
        have hgen := hcc 0 (.int .i64 x.es[0].gen) rfl
        rw [Nat.zero_mul, Nat.zero_add] at hgen
        have HD := Lib.hid (And.intro hd (And.intro hea (And.intro hec (And.intro hD8 (And.intro hZ (And.intro hR8 hU8))))))
        clear hd hea hen hec hcc hD8 hZ hR8 hU8 hown hen2
        go_upto_region 8 with fail
        go_region
        change Exit.then _ _ _ _ ((w8.setCell ⟨g, 0, none⟩ (Value.int IntKind.i64 (bits BinOp.xor IntKind.i64 (if IntKind.i64.signed = true then -1 else 9223372036854775807) x.es[0].gen))).drew)
        have hG := flip_ne x.es[0].gen
        generalize bits BinOp.xor IntKind.i64 (if IntKind.i64.signed = true then -1 else 9223372036854775807) x.es[0].gen = G at hG ⊢
        obtain ⟨hd, hea, hec, hD8, hZ, hR8, hU8⟩ := HD.out
        obtain ⟨e0, tl, hes⟩ : ∃ e0 tl, x.es = e0 :: tl := by
          cases hx : x.es with
          | nil => rw [hx] at h0n; simp at h0n
          | cons e tl => exact ⟨e, tl, rfl⟩
        have hG0 : G ≠ e0.gen := by
          have : x.es[0] = e0 := by simp [hes]
          rw [this] at hG; exact hG
        have hne : w7.heap.size ≠ g := by
          intro h
          have := Blk.own_ne hR8.2 hZ (by decide)
          exact this (by rw [h]; rfl)
        have hZ9 := hZ.far (p := ⟨g, 0, none⟩) hne (.int .i64 G)
        have q9 : rowOf ((w8.setCell ⟨g, 0, none⟩ (.int .i64 G)).drew) w7.heap.size 0 58 = some d.vals.toArray := row58 _ hZ9
        have hR9 : RowS ((w8.setCell ⟨g, 0, none⟩ (.int .i64 G)).drew) w6.heap.size 35 15 (.slice (some ⟨g, 0, none⟩) (e0 :: tl).length cap) (({ e0 with gen := G } :: tl).map Entry.vals) := by
          simp only [hes] at hR8
          exact hR8.gen G
        have hB9 : Below w6.heap.size w6 ((w8.setCell ⟨g, 0, none⟩ (.int .i64 G)).drew) := (Below.setCells hg6 [.int .i64 G] 0 w8 hB8.out).drew
        have hU9 : RowS ((w8.setCell ⟨g, 0, none⟩ (.int .i64 G)).drew) w6.heap.size 3 1 (.slice d.ua d.un d.uc) (x.us.map int1) := by
          refine hU8.touch (Touch.setRow (F := fun k => k = g) rfl [.int .i64 G] 0 (Touch.refl _ _)).drew ?_
          rintro k hk rfl
          exact own_apart hR8.2 hU8.2 (by decide) k rfl hk
        obtain ⟨A9, c9, hA9, hAt9⟩ := hU9.at_
        injection hA9 with hA9
        obtain ⟨A8, c8, hA8, hAe9⟩ := hR9.at_
        injection hA8 with hA8
        have hD9 : (RepL.mk d ({ e0 with gen := G } :: tl) x.us).There ((w8.setCell ⟨g, 0, none⟩ (.int .i64 G)).drew) :=
          ⟨by rw [hD8.ne]; simp only [hes]; rfl, hD8.nu, by have := hD8.le; simp only [hes] at this; exact this, hD8.lu, by rw [hea, hA8]; exact hAe9, by rw [hA9]; exact hAt9⟩
        have hno : x.same ⟨d, { e0 with gen := G } :: tl, x.us⟩ = false := by
          have : decide (x.es = { e0 with gen := G } :: tl) = false := decide_eq_false fun h => by
            rw [hes] at h
            injection h with h
            exact hG0 (by rw [h])
          show (decide (x.es = { e0 with gen := G } :: tl) && _) = false
          rw [this]; rfl
        generalize (w8.setCell ⟨g, 0, none⟩ (.int .i64 G)).drew = w9 at *
        have hs9 := Stb.of hB9
        have f0 := (hs9.2.1 _ 0 58 n0).trans k0
        have f5 := (hs9.2.1 _ 0 58 n5).trans k5
        have hx9 := HX.out.below hB9
        have hT9 := HT.out.below hB9
        have hsame := sameL_any x ⟨d, { e0 with gen := G } :: tl, x.us⟩ w9 hx9 hD9
        rw [hno] at hsame
        have hr := HR.out
        have HXT := Lib.hid (And.intro hx9 (And.intro hT9 hr))
        have e0 := Nat.lt_of_lt_of_le n0 hB9.size
        have e5 := Nat.lt_of_lt_of_le n5 hB9.size
        have HB9 := Lib.hid (below_then HB6.out hB9)
        clear hs9 hx9 hT9 hr hB9 hD9 hAt9 hAe9 hU9 hR9 hZ9 hZ hR8 hU8 hD8 hea hec hne hG0 hes hno hd hA8 hA9 HD HX HT HR HB6 hB8 d56 p8 hfr hgen k0 k5
        have HSM := Lib.hid hsame
        clear hsame
        go_wp2_with fail
        refine HSM.out.mono ?_
        rintro e w10 ⟨rfl, hb⟩
        have hs10 := Stb.of hb
        obtain ⟨hx9, hT9, hr⟩ := HXT.out
        have hcall := refSame8_any ⟨r, x.es, x.us⟩ x w10 (hT9.below hb) (hx9.below hb)
        have hst : (RepL.mk r x.es x.us).same x = true := RepL.same_clone (x := x.r) hr
        rw [hst] at hcall
        have HCL := Lib.hid hcall
        clear hcall hst hx9 hT9 hr HXT HSM
        go_wp2_with fail
        refine HCL.out.mono ?_
        rintro e w11 ⟨rfl, hb11⟩
        go_wp2_with fail
        refine (known8_any _).mono ?_
        rintro e w12 ⟨rfl, hb12⟩
        go_wp2
        go_ret
        exact ⟨rfl, below_then HB9.out (below_then hb (below_then hb11 hb12))⟩
      · clear hZ hU8
        go_wp2_with fail
        refine (known8_any _).mono ?_
        rintro e w9 ⟨rfl, hb9⟩
        go_wp2
        go_ret
        exact ⟨rfl, below_then HB6.out (below_then hB8.out hb9)⟩
end Go.Proofs.Ytmkhpgpnahligaa
