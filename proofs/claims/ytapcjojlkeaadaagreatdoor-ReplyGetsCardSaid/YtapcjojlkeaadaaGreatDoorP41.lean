/-
  Layer 8, walks: the law ReplyGets. Condition: a machine text.
-/
import Derived.Test.YtapcjojlkeaadaaGreatDoorP39
import Derived.Test.YtapcjojlkeaadaaGreatDoorP40
import Derived.Test.YtapcjojlkeaadaaGreatDoorP20
namespace Go.Proofs.YtapcjojlkeaadaaGreatDoor
open Go.RowKit
attribute [local go_sem ↓] Go.wp_at_zero Go.wp_at_succ
attribute [local go_sem] rowAt_ptr rowOf_drew rowOf_drewN rowOf_alloc_past rowOf_new
attribute [local go_sem ↓] ldReply

attribute [local go_sem] Reply.at0 Reply.lat0 Reply.at1 Reply.lat1 Reply.at2 Reply.lat2 Reply.at3 Reply.lat3 Reply.at4 Reply.lat4 Reply.at5 Reply.lat5 Reply.at6 Reply.lat6 Reply.at7 Reply.lat7 Reply.at8 Reply.lat8 Reply.at9 Reply.lat9 Reply.at10 Reply.lat10 Reply.at11 Reply.lat11 Reply.at12 Reply.lat12 Reply.at13 Reply.lat13 Reply.at14 Reply.lat14 Reply.at15 Reply.lat15 Reply.at16 Reply.lat16 Reply.at17 Reply.lat17 Reply.at18 Reply.lat18 Reply.at19 Reply.lat19 Reply.at20 Reply.lat20 Reply.at21 Reply.lat21 Reply.at22 Reply.lat22 Reply.at23 Reply.lat23 Reply.at24 Reply.lat24 Reply.at25 Reply.lat25 Reply.at26 Reply.lat26 Reply.at27 Reply.lat27 Reply.at28 Reply.lat28 Reply.at29 Reply.lat29 Reply.at30 Reply.lat30 Reply.at31 Reply.lat31 Reply.at32 Reply.lat32 Reply.at33 Reply.lat33 Reply.at34 Reply.lat34 Reply.at35 Reply.lat35 Reply.at36 Reply.lat36 Reply.at37 Reply.lat37 Reply.at38 Reply.lat38 Reply.at39 Reply.lat39 Reply.at40 Reply.lat40 Reply.at41 Reply.lat41 Reply.at42 Reply.lat42 Reply.at43 Reply.lat43 Reply.at44 Reply.lat44 Reply.at45 Reply.lat45 Reply.at46 Reply.lat46 Reply.at47 Reply.lat47 Reply.at48 Reply.lat48 Reply.at49 Reply.lat49 Reply.at50 Reply.lat50 Reply.at51 Reply.lat51 Reply.at52 Reply.lat52 Reply.at53 Reply.lat53 Reply.at54 Reply.lat54 Reply.at55 Reply.lat55 Reply.at56 Reply.lat56 Reply.at57 Reply.lat57 Reply.sub0_58 Reply.lsub0_58 Reply.sub2_11 Reply.lsub2_11 Reply.sub3_10 Reply.lsub3_10 Reply.sub13_11 Reply.lsub13_11 Reply.sub14_10 Reply.lsub14_10 Reply.sub24_13 Reply.lsub24_13 Reply.sub24_2 Reply.lsub24_2 Reply.sub26_11 Reply.lsub26_11 Reply.sub27_10 Reply.lsub27_10 Reply.sub37_13 Reply.lsub37_13 Reply.sub37_2 Reply.lsub37_2 Reply.sub39_11 Reply.lsub39_11 Reply.sub40_10 Reply.lsub40_10 Reply.len

def tThere (p : Int) : Bool := decide (0 ≤ p) && decide (p ≤ 21)
theorem refThere8_any (p : Int) (w : World) : Calls Tryz.prog 6 #[.int .i64 p] w fun e w' => e = .returned (.bool (tThere p)) ∧ w = w' := by
  go_enter Tryz.func6, Tryz.ntmps6
  go_wp2
  all_goals (go_ret; go_light; exact ⟨ret_bool (by grind [tThere]), rfl⟩)
theorem RowS.there8 {w : World} {B e sz : Nat} {A : Option Addr} {n c : Nat} {rows : List (List Value)} (h : RowS w B e sz (.slice A n c) rows) : n = rows.length ∧ At w sz A rows := by
  obtain ⟨A', c', he, hat⟩ := h.at_
  injection he with h1 h2 h3
  subst h1 h2 h3
  exact ⟨rfl, hat⟩
theorem repThere8 {w : World} {B : Nat} {z : Reply} {es : List Entry} {us : List Int} (hE : RowS w B 56 15 (.slice z.ea z.en z.ec) (es.map Entry.vals)) (hU : RowS w B 3 1 (.slice z.ua z.un z.uc) (us.map int1)) (he : es.length ≤ 1000) (hu : us.length ≤ 1000) : RepL.There ⟨z, es, us⟩ w := by
  obtain ⟨n1, a1⟩ := hE.there8
  obtain ⟨n2, a2⟩ := hU.there8
  rw [List.length_map] at n1 n2
  exact ⟨n1, n2, by show es.length ≤ _; omega, by show us.length ≤ _; omega, a1, a2⟩
theorem repZThere8 (w : World) : RepL.There ⟨replyZ, [], []⟩ w := ⟨rfl, rfl, Nat.zero_le _, Nat.zero_le _, At.nil, At.nil⟩
/-- what is taken is short -/
theorem numsK_short (r : Rs) (k : Nat) : (numsK r k).1.length = k := numsK_one r k
theorem pTk_short (c : Nat) (hc : pLetter c) (d : RepD) (r : Rs) (hok : pTkOk c r = true) (h : d.es.length ≤ 64 ∧ d.us.length ≤ 64) : (pTk c d r).1.es.length ≤ 64 ∧ (pTk c d r).1.us.length ≤ 64 := by
  obtain ⟨h1, h2⟩ := h
  rcases hc with rfl | rfl | rfl | rfl | rfl | rfl | rfl | rfl | rfl | rfl | rfl | rfl | rfl | rfl
  iterate 11 exact ⟨h1, h2⟩
  · have hk' : (decide ((rU32 r).1 ≤ 16) && ((numsK (rU32 r).2 (rU32 r).1).2.e == 0)) = true := hok
    rw [Bool.and_eq_true] at hk'
    have h3 := of_decide_eq_true hk'.1
    refine ⟨h1, ?_⟩
    show (numsK (rU32 r).2 (rU32 r).1).1.length ≤ 64
    rw [numsK_one]; omega
  · have hk' : (decide ((rU32 r).1 ≤ 64) && (((rU32 r).2.e == 0) && (List.range (rU32 r).1).all fun i => oneOk false (entsK false (rU32 r).2 i).2)) = true := hok
    rw [Bool.and_eq_true] at hk'
    have h3 := of_decide_eq_true hk'.1
    refine ⟨?_, h2⟩
    show (entsK false (rU32 r).2 (rU32 r).1).1.length ≤ 64
    rw [entsK_one]; omega
  · have hk' : (decide ((rU32 r).1 ≤ 64) && (((rU32 r).2.e == 0) && (List.range (rU32 r).1).all fun i => oneOk true (entsK true (rU32 r).2 i).2)) = true := hok
    rw [Bool.and_eq_true] at hk'
    have h3 := of_decide_eq_true hk'.1
    refine ⟨?_, h2⟩
    show (entsK true (rU32 r).2 (rU32 r).1).1.length ≤ 64
    rw [entsK_one]; omega
theorem pSt_short (l : List UInt8) (hl : ∀ k (hk : k < l.length), pLetter l[k].toNat) (n : Nat) (r : Rs) (hok : ∀ k, k < l.length → pStOk l (repS n) r k = true) (k : Nat) (hk : k ≤ l.length) : (pSt l (repS n) r k).1.es.length ≤ 64 ∧ (pSt l (repS n) r k).1.us.length ≤ 64 := by
  induction k with
  | zero => exact ⟨Nat.zero_le _, Nat.zero_le _⟩
  | succ k ih =>
    have hk' : k < l.length := hk
    have ho := hok k hk'
    have ho : pTkOk l[k].toNat (pSt l (repS n) r k).2 = true := by
      unfold pStOk at ho
      simpa [List.getD, List.getElem?_eq_getElem hk'] using ho
    rw [pSt_succ _ _ _ _ hk']
    exact pTk_short _ (hl k hk') _ _ ho (ih (by omega))
theorem pGet_short (p : Int) (s : List UInt8) (d : RepD) (h : pGet p s = some d) : d.es.length ≤ 64 ∧ d.us.length ≤ 64 := by
  unfold pGet at h
  split at h
  · cases h
  · split at h
    · next h2 =>
      have := pSt_short _ (fun k hk => (pFields_letter p _ hk).2) _ _ h2.1 _ (Nat.le_refl _)
      rw [Option.some.inj h] at this
      exact this
    · cases h

set_option maxRecDepth 20000 in
set_option maxHeartbeats 3200000 in
theorem replyGets_any (p : Int) (s : List UInt8) (w : World) (hl : s.length ≤ maxLen) :
    Calls Tryz.prog 3 #[.int .i64 p, .string (bs s)] w fun e w' => e = .returned (.bool true) ∧ Below w.heap.size w w' := by
  have hsz := bs_size s
  unfold maxLen at hl
  by_cases hlong : 3000 < (s.length : Int)
  · go_enter Tryz.func3, Tryz.ntmps3
    go_wp2_with fail
    refine (known8_any _).mono ?_
    rintro e w2 ⟨rfl, hb2⟩
    go_wp2
    go_ret
    exact ⟨rfl, hb2⟩
  have hsZ : RepL.same ⟨replyZ, [], []⟩ ⟨replyZ, [], []⟩ = true := by simp [RepL.same]
  have HSZ := Lib.hid hsZ
  clear hsZ
  cases ht : tThere p with
  | false =>
    have hp : ¬ (0 ≤ p ∧ p ≤ 21) := by
      rintro ⟨h1, h2⟩
      unfold tThere at ht
      simp [h1, h2] at ht
    have HG := Lib.hid (fun u => rgetNone_any p hp s u)
    go_enter Tryz.func3, Tryz.ntmps3
    go_wp2_with fail
    refine (HG.out _).mono ?_
    rintro e w1 ⟨rfl, hB1⟩
    have hY := Blk.new w1 35 replyZ.vals
    have hB2 := hB1.alloc hB1.size (.cells replyZ.vals.toArray 35)
    obtain ⟨w2, hw2⟩ : ∃ u, u = w1.alloc (.cells replyZ.vals.toArray 35) := ⟨_, rfl⟩
    rw [← hw2] at hY hB2
    have HW2 := Lib.hid hw2
    clear hw2 hB1
    have rY := hY.row 0 58 (by simp [Reply.len])
    have tok : True := trivial
    go_wp2_with (first
      | (clear tok; refine wpList_new_struct (by rfl) (by rfl) 35 (by rfl) _ _ (by rfl) replyZ.vals infoReply (by rfl) (by rfl) (Reply.one _) (by rfl) (by rfl) ?_; rw [← HW2.out])
      | fail)
    refine (refThere8_any _ _).mono ?_
    rintro e w3 ⟨rfl, rfl⟩
    rw [ht]
    go_wp2_with fail
    refine (refSame8_any ⟨replyZ, [], []⟩ ⟨replyZ, [], []⟩ _ (repZThere8 _) (repZThere8 _)).mono ?_
    rintro e w4 ⟨rfl, hb4⟩
    rw [HSZ.out]
    have HB4 := Lib.hid (below_then hB2 hb4)
    clear hB2 hb4
    go_wp2_with fail
    refine (known8_any _).mono ?_
    rintro e w5 ⟨rfl, hb5⟩
    go_wp2
    go_ret
    exact ⟨rfl, below_then HB4.out hb5⟩
  | true =>
    have hp : 0 ≤ p ∧ p ≤ 21 := by
      unfold tThere at ht
      simpa using ht
    have HG := Lib.hid (fun u => rget_any p hp s u (by omega))
    have HD := Lib.hid (fun u => refGet8_any p s u (by omega))
    cases hg : pGet p s with
    | none =>
      rw [hg] at HG HD
      go_enter Tryz.func3, Tryz.ntmps3
      go_wp2_with fail
      refine (HG.out _).mono ?_
      rintro e w1 ⟨rfl, hB1⟩
      have hY := Blk.new w1 35 replyZ.vals
      have hB2 := hB1.alloc hB1.size (.cells replyZ.vals.toArray 35)
      obtain ⟨w2, hw2⟩ : ∃ u, u = w1.alloc (.cells replyZ.vals.toArray 35) := ⟨_, rfl⟩
      rw [← hw2] at hY hB2
      have HW2 := Lib.hid hw2
      clear hw2 hB1
      have tok : True := trivial
      go_wp2_with (first
        | (clear tok; refine wpList_new_struct (by rfl) (by rfl) 35 (by rfl) _ _ (by rfl) replyZ.vals infoReply (by rfl) (by rfl) (Reply.one _) (by rfl) (by rfl) ?_; rw [← HW2.out])
        | fail)
      refine (refThere8_any _ _).mono ?_
      rintro e w3 ⟨rfl, rfl⟩
      rw [ht]
      go_wp2_with fail
      refine (HD.out _).mono ?_
      rintro e w4 ⟨rfl, hx⟩
      have hB4 := below_then hB2 hx
      have hY4 := hY.stays hx
      clear hB2 hY hx
      have hD := Blk.new w4 35 replyZ.vals
      have hY5 := hY4.alloc (.cells replyZ.vals.toArray 35)
      have hB5 := hB4.alloc hB4.size (.cells replyZ.vals.toArray 35)
      obtain ⟨w5, hw5⟩ : ∃ u, u = w4.alloc (.cells replyZ.vals.toArray 35) := ⟨_, rfl⟩
      rw [← hw5] at hD hY5 hB5
      have HW5 := Lib.hid hw5
      clear hw5 hB4 hY4
      have rY := hY5.row 0 58 (by simp [Reply.len])
      have tok : True := trivial
      go_wp2_with (first
        | (clear tok; refine wpList_new_struct (by rfl) (by rfl) 35 (by rfl) _ _ (by rfl) replyZ.vals infoReply (by rfl) (by rfl) (Reply.one _) (by rfl) (by rfl) ?_; rw [← HW5.out])
        | fail)
      refine (refSame8_any ⟨replyZ, [], []⟩ ⟨replyZ, [], []⟩ _ (repZThere8 _) (repZThere8 _)).mono ?_
      rintro e w6 ⟨rfl, hb6⟩
      rw [HSZ.out]
      have HB6 := Lib.hid (below_then hB5 hb6)
      clear hB5 hb6
      go_wp2_with fail
      refine (known8_any _).mono ?_
      rintro e w7 ⟨rfl, hb7⟩
      go_wp2
      go_ret
      exact ⟨rfl, below_then HB6.out hb7⟩
    | some d =>
      rw [hg] at HG HD
      have hsh := pGet_short p s d hg
      obtain ⟨f1, f2, f3, f4⟩ := pGet_same p s (by omega) d hg
      obtain ⟨df, es, us⟩ := d
      simp only at hsh f1 f2 f3 f4
      have HF := Lib.hid f1
      have HF4 := Lib.hid f4
      clear hg f1 f4
      go_enter Tryz.func3, Tryz.ntmps3
      go_wp2_with fail
      refine (HG.out _).mono ?_
      rintro e w1 ⟨⟨z, rfl, hz, hE, hU⟩, hB1⟩
      simp only at hz hE hU
      subst hz
      have hY := Blk.new w1 35 z.vals
      have hnx := (Below.refl w1.heap.size w1).alloc (Nat.le_refl _) (.cells z.vals.toArray 35)
      have hB2 := hB1.alloc hB1.size (.cells z.vals.toArray 35)
      have hE2 := RowS.stays hE hnx
      have hU2 := RowS.stays hU hnx
      obtain ⟨w2, hw2⟩ : ∃ u, u = w1.alloc (.cells z.vals.toArray 35) := ⟨_, rfl⟩
      rw [← hw2] at hY hB2 hE2 hU2
      have HW2 := Lib.hid hw2
      clear hw2 hB1 hE hU hnx
      have tok : True := trivial
      go_wp2_with (first
        | (clear tok; refine wpList_new_struct (by rfl) (by rfl) 35 (by rfl) _ _ (by rfl) z.vals infoReply (by rfl) (by rfl) (Reply.one _) (by rfl) (by rfl) ?_; rw [← HW2.out])
        | fail)
      refine (refThere8_any _ _).mono ?_
      rintro e w3 ⟨rfl, rfl⟩
      rw [ht]
      go_wp2_with fail
      refine (HD.out _).mono ?_
      rintro e w4 ⟨⟨y, rfl, hy, hE4, hU4⟩, hx⟩
      simp only at hy hE4 hU4
      have hB4 := below_then hB2 hx
      have hY4 := hY.stays hx
      have hE3 := RowS.stays hE2 hx
      have hU3 := RowS.stays hU2 hx
      clear hB2 hY hx hE2 hU2
      have hD := Blk.new w4 35 y.vals
      have hnx := (Below.refl w4.heap.size w4).alloc (Nat.le_refl _) (.cells y.vals.toArray 35)
      have hY5 := hY4.stays hnx
      have hB5 := below_then hB4 hnx
      have hEx := RowS.stays hE3 hnx
      have hUx := RowS.stays hU3 hnx
      have hEy := RowS.stays hE4 hnx
      have hUy := RowS.stays hU4 hnx
      obtain ⟨w5, hw5⟩ : ∃ u, u = w4.alloc (.cells y.vals.toArray 35) := ⟨_, rfl⟩
      rw [← hw5] at hD hY5 hB5 hEx hUx hEy hUy
      have HW5 := Lib.hid hw5
      clear hw5 hB4 hY4 hE3 hU3 hE4 hU4 hnx
      have rY := hY5.row 0 58 (by simp [Reply.len])
      have rD := hD.row 0 58 (by simp [Reply.len])
      have tx := repThere8 hEx hUx (by omega) (by omega)
      have ty := repThere8 hEy hUy (by omega) (by omega)
      have HTX := Lib.hid tx
      have HTY := Lib.hid ty
      have HSM := Lib.hid (show RepL.same ⟨z, es, us⟩ ⟨y, es, us⟩ = true by simp [RepL.same, hy])
      have hbl := hY5.lt
      clear hy tx ty hEx hUx hEy hUy
      have tok : True := trivial
      go_wp2_with (first
        | (clear tok; refine wpList_new_struct (by rfl) (by rfl) 35 (by rfl) _ _ (by rfl) y.vals infoReply (by rfl) (by rfl) (Reply.one _) (by rfl) (by rfl) ?_; rw [← HW5.out])
        | fail)
      refine (refSame8_any ⟨z, es, us⟩ ⟨y, es, us⟩ _ HTX.out HTY.out).mono ?_
      rintro e w6 ⟨rfl, hb6⟩
      rw [HSM.out]
      have hY6 := hY5.stays hb6
      have hTX6 := HTX.out.below hb6
      have rY := hY6.row 0 58 (by simp [Reply.len])
      have HB6 := Lib.hid (below_then hB5 hb6)
      have hbl := hY6.lt
      have HR := Lib.hid (refBytes8_any p z es us w6 hTX6.ne hTX6.nu hTX6.e hTX6.u f2 f3 HF4.out)
      clear hB5 hb6 hY6 hTX6 hY5 hD rD f2 f3
      go_wp2_with fail
      refine HR.out.mono ?_
      rintro e w7 ⟨rfl, hb7⟩
      have HB7 := Lib.hid (below_then HB6.out hb7)
      clear hb7 rY
      have HF2 := Lib.hid (show num z.status.toNat 4 ++ pLaid ⟨z.bare, es, us⟩ (pFields p (z.status == 0)) (pFields p (z.status == 0)).length = s from HF.out.symm)
      rw [HF2.out]
      go_wp2_with fail
      refine (known8_any _).mono ?_
      rintro e w8 ⟨rfl, hb8⟩
      go_wp2
      go_ret
      exact ⟨rfl, below_then HB7.out hb8⟩
end Go.Proofs.YtapcjojlkeaadaaGreatDoor
