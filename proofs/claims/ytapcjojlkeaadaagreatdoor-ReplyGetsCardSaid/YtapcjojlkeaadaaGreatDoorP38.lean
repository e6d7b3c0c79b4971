/-
  Layer 8, walks: the document's Get of results. Condition: a text no longer than 10^18.
-/
import Derived.Test.YtapcjojlkeaadaaGreatDoorP37
import Derived.Test.YtapcjojlkeaadaaGreatDoorP32
namespace Go.Proofs.YtapcjojlkeaadaaGreatDoor
open Go.RowKit
attribute [local go_sem ↓] Go.wp_at_zero Go.wp_at_succ
attribute [local go_sem] rowAt_ptr rowOf_drew rowOf_drewN rowOf_alloc_past rowOf_new
attribute [local go_sem ↓] ldReply

attribute [local go_sem] Reply.at0 Reply.lat0 Reply.at1 Reply.lat1 Reply.at2 Reply.lat2 Reply.at3 Reply.lat3 Reply.at4 Reply.lat4 Reply.at5 Reply.lat5 Reply.at6 Reply.lat6 Reply.at7 Reply.lat7 Reply.at8 Reply.lat8 Reply.at9 Reply.lat9 Reply.at10 Reply.lat10 Reply.at11 Reply.lat11 Reply.at12 Reply.lat12 Reply.at13 Reply.lat13 Reply.at14 Reply.lat14 Reply.at15 Reply.lat15 Reply.at16 Reply.lat16 Reply.at17 Reply.lat17 Reply.at18 Reply.lat18 Reply.at19 Reply.lat19 Reply.at20 Reply.lat20 Reply.at21 Reply.lat21 Reply.at22 Reply.lat22 Reply.at23 Reply.lat23 Reply.at24 Reply.lat24 Reply.at25 Reply.lat25 Reply.at26 Reply.lat26 Reply.at27 Reply.lat27 Reply.at28 Reply.lat28 Reply.at29 Reply.lat29 Reply.at30 Reply.lat30 Reply.at31 Reply.lat31 Reply.at32 Reply.lat32 Reply.at33 Reply.lat33 Reply.at34 Reply.lat34 Reply.at35 Reply.lat35 Reply.at36 Reply.lat36 Reply.at37 Reply.lat37 Reply.at38 Reply.lat38 Reply.at39 Reply.lat39 Reply.at40 Reply.lat40 Reply.at41 Reply.lat41 Reply.at42 Reply.lat42 Reply.at43 Reply.lat43 Reply.at44 Reply.lat44 Reply.at45 Reply.lat45 Reply.at46 Reply.lat46 Reply.at47 Reply.lat47 Reply.at48 Reply.lat48 Reply.at49 Reply.lat49 Reply.at50 Reply.lat50 Reply.at51 Reply.lat51 Reply.at52 Reply.lat52 Reply.at53 Reply.lat53 Reply.at54 Reply.lat54 Reply.at55 Reply.lat55 Reply.at56 Reply.lat56 Reply.at57 Reply.lat57 Reply.sub0_58 Reply.lsub0_58 Reply.sub2_11 Reply.lsub2_11 Reply.sub3_10 Reply.lsub3_10 Reply.sub13_11 Reply.lsub13_11 Reply.sub14_10 Reply.lsub14_10 Reply.sub24_13 Reply.lsub24_13 Reply.sub24_2 Reply.lsub24_2 Reply.sub26_11 Reply.lsub26_11 Reply.sub27_10 Reply.lsub27_10 Reply.sub37_13 Reply.lsub37_13 Reply.sub37_2 Reply.lsub37_2 Reply.sub39_11 Reply.lsub39_11 Reply.sub40_10 Reply.lsub40_10 Reply.len

theorem RdF.new8 (w : World) (s : List UInt8) (h : s.length ≤ 1000000000000000000) : RdF (w.alloc (.cells #[.string (bs s), .int .i64 0, .int .i64 0] 59)) w.heap.size ⟨s, 0⟩ :=
  ⟨s, 0, Blk.new _ _ _, Nat.zero_le _, h, fun _ => rfl, fun h => absurd rfl h⟩
theorem lettersPQ_short (fine : Bool) : ∀ s ∈ lettersPQ fine, s.length ≤ 9 := by cases fine <;> decide
theorem pFields_short (p : Int) (fine : Bool) : (pFields p fine).length ≤ 9 := by
  unfold pFields
  split
  · simp
  · rcases Nat.lt_or_ge p.toNat (lettersPQ fine).length with h | h
    · have he : (lettersPQ fine).getD p.toNat [] = (lettersPQ fine)[p.toNat] := by simp [List.getD, List.getElem?_eq_getElem h]
      rw [he]
      exact lettersPQ_short fine _ (List.getElem_mem h)
    · simp [List.getD, List.getElem?_eq_none h]
def slotR (c : Nat) : Nat := if pRow c then 0 else c
theorem lettersPQ_nodupR (fine : Bool) : ∀ s ∈ lettersPQ fine, (s.map fun c => slotR c.toNat).Nodup := by cases fine <;> decide
theorem pFields_nodupR (p : Int) (fine : Bool) : ((pFields p fine).map fun c => slotR c.toNat).Nodup := by
  unfold pFields
  split
  · exact List.nodup_nil
  · rcases Nat.lt_or_ge p.toNat (lettersPQ fine).length with h | h
    · have he : (lettersPQ fine).getD p.toNat [] = (lettersPQ fine)[p.toNat] := by simp [List.getD, List.getElem?_eq_getElem h]
      rw [he]
      exact lettersPQ_nodupR fine _ (List.getElem_mem h)
    · simp [List.getD, List.getElem?_eq_none h]
/-- has a row's letter been taken -/
def rowUp (l : List UInt8) (k : Nat) : Bool := (l.take k).any fun c => pRow c.toNat
theorem rowUp_succ (l : List UInt8) (k : Nat) (hk : k < l.length) : rowUp l (k + 1) = (rowUp l k || pRow l[k].toNat) := by
  unfold rowUp
  rw [List.take_add_one, List.getElem?_eq_getElem hk, List.any_append]
  simp
theorem rowUp_no {l : List UInt8} (hn : (l.map fun c => slotR c.toNat).Nodup) {k : Nat} (hk : k < l.length) (h : pRow l[k].toNat = true) : rowUp l k = false := by
  rw [Bool.eq_false_iff]
  intro hu
  unfold rowUp at hu
  obtain ⟨c, hc, hp⟩ := List.any_eq_true.1 hu
  obtain ⟨j, hj, rfl⟩ := List.getElem_of_mem hc
  have hj2 : j < k := by rw [List.length_take] at hj; omega
  rw [List.getElem_take] at hp
  have := (List.pairwise_iff_getElem.1 hn) j k (by rw [List.length_map]; omega) (by rw [List.length_map]; omega) hj2
  rw [List.getElem_map, List.getElem_map] at this
  refine this ?_
  show slotR _ = slotR _
  unfold slotR
  rw [if_pos hp, if_pos h]
/-- what the document's Get gives -/
def GetF8 (x : Option RepD) (w : World) (e : Ending) (w' : World) : Prop :=
  (match x with
    | some d => ∃ z : Reply, e = .returned (.tuple #[.agg z.vals.toArray, .bool true]) ∧ z.bare = d.f ∧ RowS w' w.heap.size 56 15 (.slice z.ea z.en z.ec) (d.es.map Entry.vals) ∧ RowS w' w.heap.size 3 1 (.slice z.ua z.un z.uc) (d.us.map int1)
    | none => e = .returned (.tuple #[.agg replyZ.vals.toArray, .bool false])) ∧ Below w.heap.size w w'
theorem GetF8.no {x : Option RepD} {w w' : World} (h : x = none) (hB : Below w.heap.size w w') : GetF8 x w (.returned (.tuple #[.agg replyZ.vals.toArray, .bool false])) w' := by subst h; exact ⟨rfl, hB⟩
theorem There8F.stays {B b : Nat} {row : Bool} {d : RepD} {W W' : World} (h : There8F B b row d W) (hb : Below W.heap.size W W') : There8F B b row d W' := by
  obtain ⟨z, hA, hz, hE, hU, h0⟩ := h
  exact ⟨z, hA.stays hb, hz, RowS.stays hE hb, RowS.stays hU hb, h0⟩

set_option maxRecDepth 20000 in
set_option maxHeartbeats 3200000 in
theorem refGet8_any (p : Int) (s : List UInt8) (w : World) (hl : s.length ≤ 1000000000000000000) :
    Calls Tryz.prog 8 #[.int .i64 p, .string (bs s)] w (GetF8 (pGet p s) w) := by
  have b0 := Blk.new w 35 replyZ.vals
  have hB0 : Below w.heap.size w (w.alloc (.cells replyZ.vals.toArray 35)) := (Below.refl _ _).alloc (Nat.le_refl _) _
  have hs0 : (w.alloc (.cells replyZ.vals.toArray 35)).heap.size = w.heap.size + 1 := by simp
  have K := fun W g (h : RdF W g ⟨s, 0⟩) => refU4_any g ⟨s, 0⟩ W h
  have HP := Lib.hid (show pGet p s = if (rU32 ⟨s, 0⟩).2.e ≠ 0 ∨ pKnown (rU32 ⟨s, 0⟩).1 = false then none
    else if (∀ k, k < (pFields p ((rU32 ⟨s, 0⟩).1 == 0)).length → pStOk (pFields p ((rU32 ⟨s, 0⟩).1 == 0)) (repS (rU32 ⟨s, 0⟩).1) (rU32 ⟨s, 0⟩).2 k = true) ∧
      rDone (pSt (pFields p ((rU32 ⟨s, 0⟩).1 == 0)) (repS (rU32 ⟨s, 0⟩).1) (rU32 ⟨s, 0⟩).2 (pFields p ((rU32 ⟨s, 0⟩).1 == 0)).length).2 = 0
    then some (pSt (pFields p ((rU32 ⟨s, 0⟩).1 == 0)) (repS (rU32 ⟨s, 0⟩).1) (rU32 ⟨s, 0⟩).2 (pFields p ((rU32 ⟨s, 0⟩).1 == 0)).length).1 else none from rfl)
  have hq : (rU32 ⟨s, 0⟩).2.s.length ≤ 9223372036854775807 := by
    have h1 : (⟨s, 0⟩ : Rs).s.length ≤ 9223372036854775807 := by show s.length ≤ _; omega
    exact Nat.le_trans (rU32_len h1) h1
  generalize pGet p s = RES at *
  generalize rU32 ⟨s, 0⟩ = y at *
  obtain ⟨n, q⟩ := y
  simp only at K HP hq
  have K := Lib.hid K
  have hR1 := RdF.new8 (w.alloc (.cells replyZ.vals.toArray 35)) s hl
  have hB1 : Below (w.alloc (.cells replyZ.vals.toArray 35)).heap.size (w.alloc (.cells replyZ.vals.toArray 35)) ((w.alloc (.cells replyZ.vals.toArray 35)).alloc (.cells #[.string (bs s), .int .i64 0, .int .i64 0] 59)) := (Below.refl _ _).alloc (Nat.le_refl _) _
  obtain ⟨w1, hw1⟩ : ∃ V, V = (w.alloc (.cells replyZ.vals.toArray 35)).alloc (.cells #[.string (bs s), .int .i64 0, .int .i64 0] 59) := ⟨_, rfl⟩
  rw [← hw1] at hR1 hB1
  rw [hs0] at hR1
  replace b0 := b0.stays hB1
  have hBB1 := below_then hB0 hB1
  have HW1 := Lib.hid hw1
  clear hB0 hB1 hs0 hw1
  go_enter Tryz.func8, Tryz.ntmps8
  go_wp2_with fail
  change Calls _ _ _ ((w.alloc (.cells replyZ.vals.toArray 35)).alloc (.cells #[.string (bs s), .int .i64 0, .int .i64 0] 59)) _
  rw [← HW1.out]
  refine (K.out _ _ hR1).mono ?_
  rintro e w2 ⟨rfl, hQ⟩
  have hg0 : w.heap.size ≠ w.heap.size + 1 := by omega
  replace b0 := hQ.keeps b0 hg0
  have hlw := b0.lt
  have hB2 := hBB1.trans (hQ.below (B := w.heap.size) (by omega) hBB1.size)
  have hgl := hQ.1.lt
  obtain ⟨z, hz⟩ : ∃ z : Reply, z = { replyZ with status := n } := ⟨_, rfl⟩
  have hx := (Below.refl w2.heap.size w2).alloc (Nat.le_refl _) (.cells z.vals.toArray 35)
  have x3 := Blk.new w2 35 z.vals
  have hsz3 : (w2.alloc (.cells z.vals.toArray 35)).heap.size = w2.heap.size + 1 := by simp
  obtain ⟨w3, hw3⟩ : ∃ V, V = w2.alloc (.cells z.vals.toArray 35) := ⟨_, rfl⟩
  rw [← hw3] at hx x3 hsz3
  have HW3 := Lib.hid hw3
  have HZ := Lib.hid hz
  replace b0 := b0.stays hx
  have hR3 := hQ.1.stays hx
  have HB := Lib.hid (below_then hB2 hx)
  have c0 : w3.cell? ⟨w2.heap.size, 0, none⟩ = some (.int .i64 n) := by rw [x3.cell 0, HZ.out]; rfl
  have hE3 := ReadsF.err hR3
  clear hQ hB2 hx hw3 hz hBB1 hR1 K
  by_cases he : q.e = 0
  case neg =>
    have he2 : (q.e != 0) = true := by simpa using he
    go_wp2_with (first
      | (refine wpList_store_new (by rfl) 35 _ _ (by rfl) z.vals replyZ.vals w2 35 rfl (by rfl) (by rfl) (by rw [HZ.out]; rfl) (by kernel_rfl) (Reply.one _) ?_; rw [← HW3.out])
      | (refine wpList_store_whole (by rfl) 35 _ _ (by rfl) w.heap.size replyZ.vals _ b0 (by rfl) (by rfl) (by rfl) (by kernel_rfl) (Reply.one _) ?_)
      | fail)
    refine ret_cells2 w.heap.size 0 replyZ.vals (.bool false) Tryz.results8 Tryz.underlying35 rfl (by kernel_rfl) rfl rfl (b0.whole (by rfl)).range rfl ?_
    exact GetF8.no (by rw [HP.out]; grind) (Below.setWhole HB.out (Nat.le_refl _) _)
  rw [he] at hE3
  go_wp2_with (first
    | (refine wpList_store_new (by rfl) 35 _ _ (by rfl) z.vals replyZ.vals w2 35 rfl (by rfl) (by rfl) (by rw [HZ.out]; rfl) (by kernel_rfl) (Reply.one _) ?_; rw [← HW3.out])
    | fail)
  refine (refKnown8_any n _).mono ?_
  rintro e w4 ⟨rfl, hb⟩
  replace b0 := b0.stays hb
  replace x3 := x3.stays hb
  replace hR3 := hR3.stays hb
  have hsz4 := hb.size
  replace HB := Lib.hid (below_then HB.out hb)
  have c0 : w4.cell? ⟨w2.heap.size, 0, none⟩ = some (.int .i64 n) := by rw [x3.cell 0, HZ.out]; rfl
  clear hb hE3
  cases hk : pKnown n
  case false =>
    go_wp2_with (first | (refine wpList_store_whole (by rfl) 35 _ _ (by rfl) w.heap.size replyZ.vals _ b0 (by rfl) (by rfl) (by rfl) (by kernel_rfl) (Reply.one _) ?_) | fail)
    refine ret_cells2 w.heap.size 0 replyZ.vals (.bool false) Tryz.results8 Tryz.underlying35 rfl (by kernel_rfl) rfl rfl (b0.whole (by rfl)).range rfl ?_
    exact GetF8.no (by rw [HP.out, if_pos (.inr hk)]) (Below.setWhole HB.out (Nat.le_refl _) _)
  have HP2 := Lib.hid (HP.out.trans (if_neg (show ¬ (q.e ≠ 0 ∨ pKnown n = false) by simp [he, hk])))
  have KF := refFields8_any p (n == 0)
  have hlet0 : ∀ k (hk : k < (pFields p (n == 0)).length), (pFields p (n == 0))[k].toNat < 128 ∧ pLetter (pFields p (n == 0))[k].toNat := fun k hk => pFields_letter p _ hk
  have hnd := pFields_nodup p (n == 0)
  have hnr := pFields_nodupR p (n == 0)
  obtain ⟨l, hlf⟩ : ∃ l, l = pFields p (n == 0) := ⟨_, rfl⟩
  have hsh : l.length ≤ 9 := by rw [hlf]; exact pFields_short p _
  rw [← hlf] at HP2 KF hlet0 hnd hnr
  have KF := Lib.hid KF
  have hbe : ((n : Int) == 0) = (n == 0) := by rw [Bool.eq_iff_iff]; simp
  have HBE := Lib.hid hbe
  clear hlf HP hk hbe
  go_wp2_with fail
  rw [HBE.out]
  refine (KF.out _).mono ?_
  rintro e w5 ⟨rfl, hb⟩
  have hD0 : There8F (w2.heap.size + 1) w2.heap.size false (repS n) w5 := ⟨z, x3.stays hb, by rw [HZ.out]; rfl, by rw [HZ.out]; exact RowS.none_, by rw [HZ.out]; exact RowS.none_, fun _ => by rw [HZ.out]; exact ⟨⟨rfl, rfl, rfl⟩, ⟨rfl, rfl, rfl⟩⟩⟩
  replace b0 := b0.stays hb
  replace hR3 := hR3.stays hb
  replace HB := Lib.hid (below_then HB.out hb)
  have hsz5 : w2.heap.size + 1 ≤ w5.heap.size := by have := hb.size; omega
  clear hb x3 c0 KF hsz4 hsz3
  have hbs := bs_size l
  have HST := Lib.hid (fun k (hk : k < l.length) => (show pStOk l (repS n) q k = pTkOk l[k].toNat (pSt l (repS n) q k).2 by simp [pStOk, List.getD, List.getElem?_eq_getElem hk]))
  have HSS := Lib.hid (fun k hk => pSt_succ l (repS n) q k hk)
  have HSL := Lib.hid (fun k hk => pSt_len l (repS n) hq k hk)
  have HSE := Lib.hid (fun hok => (pSt_same l (fun k hk => (hlet0 k hk).2) hnd (repS n) q he hq hok l.length (Nat.le_refl _)).2.1)
  have HND := Lib.hid (fun k hk => rowUp_no hnr (k := k) hk)
  have HRU := Lib.hid (fun k hk => rowUp_succ l k hk)
  clear hnd hnr
  go_wp2
  go_loopw [9] (fun iv wr => ∃ k : Nat, k ≤ l.length ∧ iv = .int .i64 k ∧ (∀ j, j < k → pStOk l (repS n) q j = true) ∧ There8F (w2.heap.size + 1) w2.heap.size (rowUp l k) (pSt l (repS n) q k).1 wr ∧ RdF wr (w.heap.size + 1) (pSt l (repS n) q k).2 ∧ Blk wr w.heap.size 35 replyZ.vals ∧ Below w.heap.size w wr ∧ w2.heap.size + 1 ≤ wr.heap.size) (fun iv _ => l.length - (intOf iv).toNat)
  case atStart => exact ⟨0, Nat.zero_le _, rfl, fun _ h => absurd h (Nat.not_lt_zero _), hD0, hR3, b0, HB.out, hsz5⟩
  case round =>
    clear hD0 hR3 b0 HB
    obtain ⟨k, hk, rfl, hall, hD, hR, b0, hB, hsw⟩ := hrel
    by_cases hlk : k < l.length
    · have hqv : ((bs l)[k]'(by rw [hbs]; exact hlk)).toNat = l[k].toNat := rfl
      have KT := Lib.hid (ftake_any (w.heap.size + 1) w2.heap.size (w2.heap.size + 1) (rowUp l k) _ _ l[k].toNat (hlet0 k hlk).2 wr hR hD (by omega) (by omega) (by omega) hsw (HND.out k hlk) (HSL.out k hk))
      go_wp2_with fail
      refine KT.out.mono ?_
      rintro e w7 ⟨rfl, hok, hT⟩
      have b3 := b0.touch hT (fun e => by rcases e with e | e | e <;> omega)
      have hB3 := hB.trans (hT.below (B := w.heap.size) (fun j _ hf => by rcases hf with rfl | rfl | hf <;> omega) hB.size)
      have hsw7 := hT.size
      cases hb : pTkOk l[k].toNat (pSt l (repS n) q k).2
      case true =>
        obtain ⟨hD3, hR3⟩ := hok hb
        rw [← HSS.out k hlk] at hD3 hR3
        rw [← HRU.out k hlk] at hD3
        have HALL := Lib.hid (show ∀ j, j < k + 1 → pStOk l (repS n) q j = true from fun j hj => by
          rcases Nat.lt_or_ge j k with h | h
          · exact hall j h
          · obtain rfl : j = k := by omega
            rw [HST.out j hlk]; exact hb)
        have hiw : IntKind.i64.wrap ((k : Int) + 1) = (k : Int) + 1 := IntWalk.i64_in _ (by omega)
        clear hD hR hB b0 hok hall KT hT
        go_wp2
        go_roundw
        case rel => exact ⟨k + 1, by omega, by go_num, HALL.out, hD3, hR3, b3, hB3, by omega⟩
        case measure => simp [intOf]; omega
      case false =>
        have HN := Lib.hid (show RES = none by
          rw [HP2.out]
          refine if_neg fun h => ?_
          have := h.1 k hlk
          rw [HST.out k hlk, hb] at this
          cases this)
        have b0 := b3
        have HB := Lib.hid hB3
        clear hD hR hB hok hall KT hT
        go_wp2_with (first | (refine wpList_store_whole (by rfl) 35 _ _ (by rfl) w.heap.size replyZ.vals _ b0 (by rfl) (by rfl) (by rfl) (by kernel_rfl) (Reply.one _) ?_) | fail)
        refine ret_cells2 w.heap.size 0 replyZ.vals (.bool false) Tryz.results8 Tryz.underlying35 rfl (by kernel_rfl) rfl rfl (b0.whole (by rfl)).range rfl ?_
        exact GetF8.no HN.out (Below.setWhole HB.out (Nat.le_refl _) _)
    · obtain rfl : k = l.length := by omega
      have HB := Lib.hid hB
      have HALL := Lib.hid hall
      have HD := Lib.hid hD
      have HR := Lib.hid hR
      have hQE := HSE.out hall
      clear hB hall hD hR
      go_wp2_with fail
      refine (refLeft_any _ _ _ HR.out).mono ?_
      rintro e w7 ⟨rfl, hb7⟩
      replace b0 := b0.stays hb7
      replace HB := Lib.hid (below_then HB.out hb7)
      replace HD := Lib.hid (HD.out.stays hb7)
      clear hb7 HR
      by_cases hd : 0 < rLeft (pSt l (repS n) q l.length).2
      case pos =>
        have HN := Lib.hid (show RES = none by
          rw [HP2.out]
          exact if_neg fun h => (rDone_left.1 h.2).2 hd)
        go_wp2_with (first | (refine wpList_store_whole (by rfl) 35 _ _ (by rfl) w.heap.size replyZ.vals _ b0 (by rfl) (by rfl) (by rfl) (by kernel_rfl) (Reply.one _) ?_) | fail)
        refine ret_cells2 w.heap.size 0 replyZ.vals (.bool false) Tryz.results8 Tryz.underlying35 rfl (by kernel_rfl) rfl rfl (b0.whole (by rfl)).range rfl ?_
        exact GetF8.no HN.out (Below.setWhole HB.out (Nat.le_refl _) _)
      have HS := Lib.hid (show RES = some (pSt l (repS n) q l.length).1 by
        rw [HP2.out]
        exact if_pos ⟨HALL.out, rDone_left.2 ⟨hQE, hd⟩⟩)
      obtain ⟨z', hA, hz', hE, hU, -⟩ := HD.out
      have r4 := hA.row 0 58 (by simp [Reply.len])
      rw [show (z'.vals.drop 0).take 58 = z'.vals by rw [List.drop_zero, List.take_of_length_le (by rw [Reply.len]; omega)]] at r4
      have hTz := Touch.setCells (F := fun k => k = w.heap.size) (g := w.heap.size) (.inl rfl) z'.vals 0 w7 (Touch.refl _ _)
      have hE2 := RowS.base (C := w.heap.size) (RowS.touch hE hTz (fun k hk hf => by subst hf; exact Blk.own_ne hE.2 b0 (by decide) hk)) (by omega)
      have hU2 := RowS.base (C := w.heap.size) (RowS.touch hU hTz (fun k hk hf => by subst hf; exact Blk.own_ne hU.2 b0 (by decide) hk)) (by omega)
      have HL := Lib.hid (And.intro hz' (And.intro hE2 (And.intro hU2 (Below.setWhole HB.out (Nat.le_refl _) z'.vals))))
      clear hz' hE hU hE2 hU2 hTz hA
      go_wp2_with (first | (refine wpList_store_whole (by rfl) 35 _ _ (by rfl) w.heap.size z'.vals _ b0 (by rfl) (by rfl) (by rfl) (by kernel_rfl) (Reply.one _) ?_) | fail)
      refine ret_cells2 w.heap.size 0 z'.vals (.bool true) Tryz.results8 Tryz.underlying35 rfl (by kernel_rfl) rfl rfl (b0.whole (by rfl)).range rfl ?_
      rw [HS.out]
      exact ⟨⟨z', rfl, HL.out.1, HL.out.2.1, HL.out.2.2.1⟩, HL.out.2.2.2⟩
end Go.Proofs.YtapcjojlkeaadaaGreatDoor
