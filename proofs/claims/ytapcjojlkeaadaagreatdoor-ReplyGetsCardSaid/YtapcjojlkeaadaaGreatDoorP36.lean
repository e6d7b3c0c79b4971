/-
  Layer 8, walks: the document takes the entries of results. Conditions: a reader and results at blocks of their own, no entries yet.
-/
import Derived.Test.YtapcjojlkeaadaaGreatDoorP35
import Derived.Test.YtapcjojlkeaadaaGreatDoorP23
namespace Go.Proofs.YtapcjojlkeaadaaGreatDoor
open Go.RowKit
attribute [local go_sem ↓] Go.wp_at_zero Go.wp_at_succ
attribute [local go_sem] rowAt_ptr rowOf_drew rowOf_drewN rowOf_alloc_past rowOf_new
attribute [local go_sem ↓] ldPost ldEntry

attribute [local go_sem] Entry.at0 Entry.lat0 Entry.at1 Entry.lat1 Entry.at2 Entry.lat2 Entry.at3 Entry.lat3 Entry.at4 Entry.lat4 Entry.at5 Entry.lat5 Entry.at6 Entry.lat6 Entry.at7 Entry.lat7 Entry.at8 Entry.lat8 Entry.at9 Entry.lat9 Entry.at10 Entry.lat10 Entry.at11 Entry.lat11 Entry.at12 Entry.lat12 Entry.at13 Entry.lat13 Entry.at14 Entry.lat14 Entry.sub0_15 Entry.lsub0_15 Entry.sub3_11 Entry.lsub3_11 Entry.sub4_10 Entry.lsub4_10 Entry.len laterLd

/-- what holds while an entry is taken at block Y -/
structure InE (g b B Y : Nat) (q : Rs) (ce : List Value) (z : Reply) (rows : List (List Value)) (w W : World) : Prop where
  hg : g < B
  hb : b < B
  hne : b ≠ g
  hY : B ≤ Y
  R : RdF W g q
  E : Blk W Y 56 ce
  C : Blk W b 35 z.vals
  L : RowS W B 56 15 (.slice z.ea z.en z.ec) rows
  D : ∀ k, (Value.slice z.ea z.en z.ec).ownBlock = some k → k ≠ Y
  T : Touch (FB g b B) w W
section
variable {g b B Y : Nat} {q q' : Rs} {ce : List Value} {z : Reply} {rows : List (List Value)} {w W W' : World}
theorem InE.read (h : InE g b B Y q ce z rows w W) (hQ : ReadsF g q' W W') : InE g b B Y q' ce z rows w W' :=
  ⟨h.hg, h.hb, h.hne, h.hY, hQ.1, hQ.keeps h.E (by have := h.hg; have := h.hY; omega), hQ.keeps h.C h.hne, RowS.touch h.L hQ.2 (fun k hk hf => by have := (RowS.lt h.L k hk).1; have := h.hg; omega), h.D, h.T.then_ (hQ.2.mono fun _ _ hk => .inl hk)⟩
theorem InE.set (h : InE g b B Y q ce z rows w W) (i : Nat) (u : Value) : InE g b B Y q (ce.set i u) z rows w (W.setCell ⟨Y, i, none⟩ u) := by
  have hT : Touch (fun k => k = Y) W (W.setCell ⟨Y, i, none⟩ u) := (Touch.refl (fun k => k = Y) W).setCell_ (g := Y) (o := i) (.inl rfl) u
  have h1 := h.hg
  have h2 := h.hb
  have h3 := h.hY
  exact ⟨h.hg, h.hb, h.hne, h.hY, h.R.touch hT (by omega), h.E.set_ i u, h.C.touch hT (by omega), RowS.touch h.L hT (fun k hk hf => h.D k hk hf), h.D, h.T.then_ (hT.mono fun k _ hk => .inr (.inr (by omega)))⟩
theorem InE.sets (h : InE g b B Y q ce z rows w W) (i : Nat) (us : List Value) : InE g b B Y q (setAt ce i us) z rows w (W.setCells Y i us) := by
  have hT : Touch (fun k => k = Y) W (W.setCells Y i us) := Touch.setCells (F := fun k => k = Y) (.inl rfl) us i W (Touch.refl _ _)
  have h1 := h.hg
  have h2 := h.hb
  have h3 := h.hY
  exact ⟨h.hg, h.hb, h.hne, h.hY, h.R.touch hT (by omega), h.E.sets us _ i, h.C.touch hT (by omega), RowS.touch h.L hT (fun k hk hf => h.D k hk hf), h.D, h.T.then_ (hT.mono fun k _ hk => .inr (.inr (by omega)))⟩
/-- what is appended is stored -/
theorem InE.done (h : InE g b B Y q ce z rows w W) {A : Option Addr} {n c : Nat} {rows' : List (List Value)} (hR' : RowS W' B 56 15 (.slice A n c) rows') (hb' : Below B W W') :
    RdF (W'.setCell ⟨b, 56, none⟩ (.slice A n c)) g q ∧ Blk (W'.setCell ⟨b, 56, none⟩ (.slice A n c)) b 35 ({ z with ea := A, en := n, ec := c } : Reply).vals ∧ RowS (W'.setCell ⟨b, 56, none⟩ (.slice A n c)) B 56 15 (.slice A n c) rows' ∧ Touch (FB g b B) w (W'.setCell ⟨b, 56, none⟩ (.slice A n c)) := by
  have hT : Touch (fun k => k = b) W' (W'.setCell ⟨b, 56, none⟩ (.slice A n c)) := (Touch.refl (fun k => k = b) W').setCell_ (g := b) (o := 56) (.inl rfl) (.slice A n c)
  exact ⟨(h.R.belowB hb' h.hg).touch hT (fun e => h.hne e.symm), (h.C.below hb' h.hb).set_ 56 (.slice A n c), RowS.touch hR' hT (fun k hk hf => by have := (RowS.lt hR' k hk).1; have := h.hb; omega), (h.T.then_ (Touch.ofB hb' fun k hk => .inr (.inr hk))).then_ (hT.mono fun k _ hk => .inr (.inl hk))⟩
end
def aok (whole : Bool) (q : Rs) (k : Nat) : Bool := (q.e == 0) && (List.range k).all fun i => oneOk whole (entsK whole q i).2
theorem aok_succ (whole : Bool) (q : Rs) (k : Nat) : aok whole q (k + 1) = (aok whole q k && oneOk whole (entsK whole q k).2) := by
  unfold aok
  rw [List.range_succ, List.all_append, ← Bool.and_assoc]
  simp
theorem aok_no {whole : Bool} {q : Rs} {k n : Nat} (h : aok whole q k = false) (hk : k ≤ n) : aok whole q n = false := by
  induction n with
  | zero => obtain rfl : k = 0 := by omega
            exact h
  | succ n ih =>
    by_cases he : k = n + 1
    · subst he; exact h
    · rw [aok_succ, ih (by omega)]; rfl
theorem bothZ {a b : Int} {o : Bool} (h : ((a == 0) && (b == 0)) = o) : (o = true → a = 0 ∧ b = 0) ∧ (o = false → ¬ (a = 0 ∧ b = 0)) := by
  subst h
  constructor
  · intro h; simpa using h
  · intro h; rintro ⟨rfl, rfl⟩; simp at h

theorem fold_set8 : ∀ (cs : List Value) (k : Nat) (base : Array Value), base.size = k + cs.length → List.foldl (fun (a : Array Value) (y : Value × Nat) => a.setIfInBounds y.snd y.fst) base (cs.zipIdx k) = (base.toList.take k ++ cs).toArray
  | [], k, base, h => by
    have : base.toList.take k = base.toList := List.take_of_length_le (by simp at h ⊢; omega)
    simp [this]
  | c :: cs, k, base, h => by
    rw [List.zipIdx_cons, List.foldl_cons, fold_set8 cs (k + 1) _ (by simp at h ⊢; omega)]
    congr 1
    have hk : k < base.toList.length := by simp at h ⊢; omega
    rw [Array.toList_setIfInBounds, List.take_add_one, List.getElem?_set_self hk, List.take_set_of_le (Nat.le_refl _)]
    simp
theorem foldEntry8 (x : Entry) : List.foldl (fun (cs : Array Value) (y : Value × Nat) => cs.setIfInBounds y.snd y.fst) #[.int .i64 0, .string ⟨#[]⟩, .int .i64 0, .bool false, .int .i64 0, .int .i64 0, .int .i64 0, .int .i64 0, .int .i64 0, .int .i64 0, .int .i64 0, .int .i64 0, .int .i64 0, .int .i64 0, .string ⟨#[]⟩] x.vals.zipIdx = x.vals.toArray := by
  rw [fold_set8 x.vals 0 _ (by rw [Entry.len]; rfl)]
  rfl
attribute [local go_sem ↓] foldEntry8

set_option maxRecDepth 20000 in
set_option maxHeartbeats 3200000 in
theorem ftake_l (g b B : Nat) (z : Reply) (r : Rs) (w : World) (hR : RdF w g r) (hA : Blk w b 35 z.vals) (hne : b ≠ g) (hgB : g < B) (hbB : b < B) (hB : B ≤ w.heap.size) (h0 : z.ea = none ∧ z.en = 0 ∧ z.ec = 0) (hl : r.s.length ≤ 9223372036854775807) :
    Calls Tryz.prog 22 #[.pointer (some ⟨g, 0, none⟩), .pointer (some ⟨b, 0, none⟩), .int .u8 108] w fun e w' => e = .returned (.bool (entsOk false r)) ∧
      (entsOk false r = true → ∃ A c, Blk w' b 35 ({ z with ea := A, en := (entsK false (rU32 r).2 (rU32 r).1).1.length, ec := c } : Reply).vals ∧ RdF w' g (entsK false (rU32 r).2 (rU32 r).1).2 ∧ RowS w' B 56 15 (.slice A (entsK false (rU32 r).2 (rU32 r).1).1.length c) ((entsK false (rU32 r).2 (rU32 r).1).1.map Entry.vals)) ∧ Touch (FB g b B) w w' := by
  obtain ⟨i0, hi, hz, hsize, hby⟩ := info_parts infoEntryB
  have K := Lib.hid (refU4_any g r w hR)
  have hql := Nat.le_trans (rU32_len hl) hl
  have hgl := hR.lt
  have hbl := hA.lt
  have hne2 : ¬ g = b := fun e => hne e.symm
  have hOK : entsOk false r = (decide ((rU32 r).1 ≤ 64) && aok false (rU32 r).2 (rU32 r).1) := rfl
  rw [hOK]
  clear hOK
  generalize rU32 r = y at *
  obtain ⟨n, q⟩ := y
  simp only at K hql ⊢
  by_cases hn : 64 < n
  · have hn' : (64 : Int) < n := by omega
    have HO := Lib.hid (show (decide (n ≤ 64) && aok false q n) = false by simp; omega)
    go_enter Tryz.func22, Tryz.ntmps22
    go_wp2_with fail
    refine K.out.mono ?_
    rintro e w1 ⟨rfl, hQ⟩
    have HQ := Lib.hid (hQ.2.mono (G := FB g b B) fun _ _ h => .inl h)
    clear hQ
    go_wp2
    go_ret
    rw [HO.out]
    exact ⟨rfl, fun h => absurd h (by simp), HQ.out⟩
  have hn' : ¬ (64 : Int) < n := by omega
  have hn64 : decide (n ≤ 64) = true := by simp; omega
  rw [hn64, Bool.true_and]
  clear hn64
  go_enter Tryz.func22, Tryz.ntmps22
  go_wp2_with fail
  refine K.out.mono ?_
  rintro e w1 ⟨rfl, hQ⟩
  have hA1 := hQ.keeps hA hne
  have hT1 := hQ.2.mono (G := FB g b B) fun _ _ h => .inl h
  have HI := Lib.hid (And.intro hQ.1 (And.intro hA1 hT1))
  have hz0 : ({ z with ea := none, en := 0, ec := 0 } : Reply) = z := by
    obtain ⟨h1, h2, h3⟩ := h0
    cases z
    simp only at h1 h2 h3
    subst h1 h2 h3
    rfl
  have HZ := Lib.hid hz0
  have HQL := Lib.hid (entsK_len (whole := false) hql)
  clear hQ hA1 hT1 hA hR K h0 hz0 hql
  go_wp2
  go_loopw [7, 11] (fun ev iv wr => ∃ (k : Nat) (A : Option Addr) (c : Nat), k ≤ n ∧ ev = .int .i64 0 ∧ iv = .int .i64 k ∧ RdF wr g (entsK false q k).2 ∧ ((entsK false q k).2.e == 0) = aok false q k ∧ Blk wr b 35 ({ z with ea := A, en := k, ec := c } : Reply).vals ∧ RowS wr B 56 15 (.slice A k c) ((entsK false q k).1.map Entry.vals) ∧ Touch (FB g b B) w wr) (fun _ iv _ => n - (intOf iv).toNat)
  case atStart => exact ⟨0, none, 0, Nat.zero_le _, rfl, rfl, HI.out.1, by unfold aok; simp [entsK], by rw [HZ.out]; exact HI.out.2.1, RowS.none_, HI.out.2.2⟩
  case round =>
    clear HI HZ
    obtain ⟨k, A, c, hk, rfl, rfl, hR, hok, hA, hRow, hT⟩ := hrel
    have hE := ReadsF.err hR
    by_cases hlt : k < n
    · have hlt' : (k : Int) < n := by omega
      by_cases he : (entsK false q k).2.e = 0
      · have hs1 : entsK false q (k + 1) = ((entsK false q k).1 ++ [(oneE false (entsK false q k).2).1], (oneE false (entsK false q k).2).2) := rfl
        have hone := entsK_one false q k
        have hlen := HQL.out k
        have hok2 : aok false q (k + 1) = oneOk false (entsK false q k).2 := by
          rw [aok_succ, ← hok, he]; rfl
        have hsw := hT.size
        rw [he] at hE
        generalize (entsK false q k).2 = qk at *
        have hoo : oneOk false qk = ((oneE false qk).2.e == 0) := rfl
        have hoe : oneE false qk = (⟨((rU64 qk).1 : Int), (rOpaque 255 (rU64 qk).2).1, ((rU64 (rOpaque 255 (rU64 qk).2).2).1 : Int), postZ8, []⟩, (rU64 (rOpaque 255 (rU64 qk).2).2).2) := rfl
        rw [hoe] at hs1 hoo
        rw [hoo] at hok2
        obtain ⟨⟨x1, q1⟩, h1⟩ : ∃ y, rU64 qk = y := ⟨_, rfl⟩
        obtain ⟨⟨l2, q2⟩, h2⟩ : ∃ y, rOpaque 255 q1 = y := ⟨_, rfl⟩
        obtain ⟨⟨x3, q3⟩, h3⟩ : ∃ y, rU64 q2 = y := ⟨_, rfl⟩
        simp only [h1, h2, h3] at hs1 hok2
        have g1 : q1.s.length ≤ 9223372036854775807 := by have := Nat.le_trans (rU64_len hlen) hlen; rw [h1] at this; exact this
        have K1 := Lib.hid (fun W (h : RdF W g qk) => refU8_any g qk W h)
        have K2 := Lib.hid (fun W (h : RdF W g q1) => refTextR_any g 255 q1 W h g1)
        have K3 := Lib.hid (fun W (h : RdF W g q2) => refU8_any g q2 W h)
        rw [h1] at K1
        rw [h2] at K2
        rw [h3] at K3
        simp only at K1 K2 K3
        have hx0 := (Below.refl wr.heap.size wr).alloc (Nat.le_refl _) (.cells entryZ8.vals.toArray 56)
        have I0 : InE g b B wr.heap.size qk entryZ8.vals { z with ea := A, en := k, ec := c } ((entsK false q k).1.map Entry.vals) w (wr.alloc (.cells entryZ8.vals.toArray 56)) :=
          ⟨hgB, hbB, hne, by omega, hR.stays hx0, Blk.new wr 56 entryZ8.vals, hA.stays hx0, RowS.stays hRow hx0, fun j hj => by have := (RowS.lt hRow j hj).2; omega, hT.then_ (Touch.of_below hx0 _)⟩
        obtain ⟨wy, hwy⟩ : ∃ V, V = wr.alloc (.cells entryZ8.vals.toArray 56) := ⟨_, rfl⟩
        rw [← hwy] at I0
        have HWY := Lib.hid hwy
        have HS := Lib.hid hs1
        have HOK := Lib.hid hok2
        have hiw : IntKind.i64.wrap ((k : Int) + 1) = (k : Int) + 1 := IntWalk.i64_in _ (by omega)
        clear hR hRow hT hs1 hA hwy h1 h2 h3 hok hok2 hoe hoo hlen hx0
        go_wp2_with fail
        change Calls _ _ _ (wr.alloc (.cells entryZ8.vals.toArray 56)) _
        rw [← HWY.out]
        refine (K1.out _ I0.R).mono ?_
        rintro e w1 ⟨rfl, hQ⟩
        have I1 := I0.read hQ
        have c0 := I1.E.cell 0
        have z0 := I1.E.frozen 0
        have I2 := I1.set 0 (.int .i64 x1)
        clear hQ I0 I1
        go_wp2_with fail
        obtain ⟨wa, hw⟩ : ∃ V, V = w1.setCell ⟨wr.heap.size, 0, none⟩ (.int .i64 x1) := ⟨_, rfl⟩
        rw [← hw] at I2
        have HWN := Lib.hid hw
        clear hw
        rw [← HWN.out]
        clear HWN c0 z0
        refine (K2.out _ I2.R).mono ?_
        rintro e w2 ⟨rfl, hQ⟩
        have I3 := I2.read hQ
        have c0 := I3.E.cell 1
        have z0 := I3.E.frozen 1
        have I4 := I3.set 1 (.string (bs l2))
        clear hQ I2 I3
        go_wp2_with fail
        obtain ⟨wb, hw⟩ : ∃ V, V = w2.setCell ⟨wr.heap.size, 1, none⟩ (.string (bs l2)) := ⟨_, rfl⟩
        rw [← hw] at I4
        have HWN := Lib.hid hw
        clear hw
        rw [← HWN.out]
        clear HWN c0 z0
        refine (K3.out _ I4.R).mono ?_
        rintro e w3 ⟨rfl, hQ⟩
        have I5 := I4.read hQ
        have c0 := I5.E.cell 2
        have z0 := I5.E.frozen 2
        have I6 := I5.set 2 (.int .i64 x3)
        clear hQ I4 I5
        go_wp2_with fail
        obtain ⟨wc, hw⟩ : ∃ V, V = w3.setCell ⟨wr.heap.size, 2, none⟩ (.int .i64 x3) := ⟨_, rfl⟩
        rw [← hw] at I6
        have HWN := Lib.hid hw
        clear hw
        rw [← HWN.out]
        clear HWN c0 z0
        replace I6 : InE g b B wr.heap.size q3 (Entry.vals ⟨x1, l2, x3, postZ8, []⟩) { z with ea := A, en := k, ec := c } ((entsK false q k).1.map Entry.vals) w wc := I6
        have r4 : rowOf wc wr.heap.size 0 15 = some (Entry.vals ⟨x1, l2, x3, postZ8, []⟩).toArray := I6.E.row 0 15 (by simp [Entry.len])
        have c56 : wc.cell? ⟨b, 56, none⟩ = some (.slice A k c) := I6.C.cell 56
        have f56 := I6.C.frozen 56
        have hap := RowS.append (P := Tryz.prog) 32 32 i0 Tryz.underlying32 hi hz hsize hby rfl (by omega) (by omega) (show RowS wc.drew _ _ _ _ _ from I6.L) (by have := I6.T.size; have : wc.drew.heap.size = wc.heap.size := rfl; omega) (Entry.vals ⟨x1, l2, x3, postZ8, []⟩) (Entry.len _) (Entry.one _) (by rw [List.length_map, hone]; omega)
        have HA := Lib.hid hap
        have HI6 := Lib.hid I6
        have S0 : wc.drew.cell? ⟨b, 56, none⟩ = some (.slice A k c) ∧ wc.drew.frozen? ⟨b, 56, none⟩ = false ∧ rowOf wc.drew wr.heap.size 0 15 = some (Entry.vals ⟨x1, l2, x3, postZ8, []⟩).toArray := ⟨c56, f56, r4⟩
        have S3 : (wc.alloc (.cells (Entry.vals ⟨x1, l2, x3, postZ8, []⟩).toArray 56)).cell? ⟨b, 56, none⟩ = some (.slice A k c) := (I6.C.alloc _).cell 56
        clear hap I6
        go_region_law (first
          | (refine step_append_by (by rfl) (.tmp 179) (.tmp 181) #[32, 32] (by rfl) _ _ (by rfl) (by rfl) HA.out ?_; rintro v' w' ⟨hR', hb'⟩; obtain ⟨A', c', rfl, -⟩ := RowS.at_ hR'; have S4 : w'.cell? ⟨b, 56, none⟩ = some (.slice A k c) ∧ w'.frozen? ⟨b, 56, none⟩ = false := ⟨((show Blk wc.drew _ _ _ from HI6.out.C).below (hb' wc.drew (Below.refl _ _)) hbB).cell 56, ((show Blk wc.drew _ _ _ from HI6.out.C).below (hb' wc.drew (Below.refl _ _)) hbB).frozen 56⟩))
        all_goals
          have hn1 : ((entsK false q k).1.map Entry.vals ++ [Entry.vals ⟨x1, l2, x3, postZ8, []⟩]).length = k + 1 := by simp [hone]
          rw [hn1] at hR'
          have hD := HI6.out.done hR' (hb' wc ((Below.refl _ _).drew))
          have HD := Lib.hid hD
          clear hD hR' hb' S0 S3 S4 HA HI6 c56 f56 r4 K1 K2 K3 hn1
          go_wp2
          go_roundw
          case rel => exact ⟨k + 1, A', c', by omega, rfl, by go_num, by rw [HS.out]; exact HD.out.1, by rw [HS.out]; exact HOK.out.symm, HD.out.2.1, by rw [HS.out, List.map_append]; exact HD.out.2.2.1, HD.out.2.2.2⟩
          case measure => simp [intOf]; omega
      · have hne0 : ((entsK false q k).2.e == 0) = false := by simpa using he
        have HO := Lib.hid (show aok false q n = false from aok_no (by rw [← hok]; exact hne0) hk)
        have HT := Lib.hid hT
        generalize (entsK false q k).2.e = ek at *
        clear hT hRow hA hR hok
        go_wp2
        go_ret
        rw [HO.out]
        exact ⟨rfl, fun h => absurd h (by simp), HT.out⟩
    · obtain rfl : k = n := by omega
      have HF := Lib.hid (And.intro hR (And.intro hA (And.intro hRow hT)))
      have hone := entsK_one false q k
      obtain ⟨ek, hek⟩ : ∃ v, v = (entsK false q k).2.e := ⟨_, rfl⟩
      rw [← hek] at hE hok
      have HO := Lib.hid hok.symm
      clear hT hRow hA hR hek hok
      by_cases h0 : ek = 0
      · subst h0
        go_wp2
        go_ret
        rw [HO.out, hone]
        exact ⟨rfl, fun _ => ⟨A, c, HF.out.2.1, HF.out.1, HF.out.2.2.1⟩, HF.out.2.2.2⟩
      · have h0' : (ek == 0) = false := by simpa using h0
        go_wp2
        go_ret
        rw [HO.out, h0']
        exact ⟨rfl, fun h => absurd h (by simp), HF.out.2.2.2⟩
end Go.Proofs.YtapcjojlkeaadaaGreatDoor
