/-
  Layer 8, walks: the document takes the entries of results, with all that they have. Conditions: a reader and results at blocks of their own, no entries yet.
-/
import Derived.Test.YtapcjojlkeaadaaGreatDoorP36
import Derived.Test.YtapcjojlkeaadaaGreatDoorP25
namespace Go.Proofs.YtapcjojlkeaadaaGreatDoor
open Go.RowKit
attribute [local go_sem ↓] Go.wp_at_zero Go.wp_at_succ
attribute [local go_sem] rowAt_ptr rowOf_drew rowOf_drewN rowOf_alloc_past rowOf_new
attribute [local go_sem ↓] ldPost ldEntry foldEntry8

attribute [local go_sem] Entry.at0 Entry.lat0 Entry.at1 Entry.lat1 Entry.at2 Entry.lat2 Entry.at3 Entry.lat3 Entry.at4 Entry.lat4 Entry.at5 Entry.lat5 Entry.at6 Entry.lat6 Entry.at7 Entry.lat7 Entry.at8 Entry.lat8 Entry.at9 Entry.lat9 Entry.at10 Entry.lat10 Entry.at11 Entry.lat11 Entry.at12 Entry.lat12 Entry.at13 Entry.lat13 Entry.at14 Entry.lat14 Entry.sub0_15 Entry.lsub0_15 Entry.sub3_11 Entry.lsub3_11 Entry.sub4_10 Entry.lsub4_10 Entry.len laterLd

set_option maxRecDepth 20000 in
set_option maxHeartbeats 3200000 in
theorem ftake_p (g b B : Nat) (z : Reply) (r : Rs) (w : World) (hR : RdF w g r) (hA : Blk w b 35 z.vals) (hne : b ≠ g) (hgB : g < B) (hbB : b < B) (hB : B ≤ w.heap.size) (h0 : z.ea = none ∧ z.en = 0 ∧ z.ec = 0) (hl : r.s.length ≤ 9223372036854775807) :
    Calls Tryz.prog 22 #[.pointer (some ⟨g, 0, none⟩), .pointer (some ⟨b, 0, none⟩), .int .u8 112] w fun e w' => e = .returned (.bool (entsOk true r)) ∧
      (entsOk true r = true → ∃ A c, Blk w' b 35 ({ z with ea := A, en := (entsK true (rU32 r).2 (rU32 r).1).1.length, ec := c } : Reply).vals ∧ RdF w' g (entsK true (rU32 r).2 (rU32 r).1).2 ∧ RowS w' B 56 15 (.slice A (entsK true (rU32 r).2 (rU32 r).1).1.length c) ((entsK true (rU32 r).2 (rU32 r).1).1.map Entry.vals)) ∧ Touch (FB g b B) w w' := by
  obtain ⟨i0, hi, hz, hsize, hby⟩ := info_parts infoEntryB
  have K := Lib.hid (refU4_any g r w hR)
  have hql := Nat.le_trans (rU32_len hl) hl
  have hgl := hR.lt
  have hbl := hA.lt
  have hne2 : ¬ g = b := fun e => hne e.symm
  have hOK : entsOk true r = (decide ((rU32 r).1 ≤ 64) && aok true (rU32 r).2 (rU32 r).1) := rfl
  rw [hOK]
  clear hOK
  generalize rU32 r = y at *
  obtain ⟨n, q⟩ := y
  simp only at K hql ⊢
  by_cases hn : 64 < n
  · have hn' : (64 : Int) < n := by omega
    have HO := Lib.hid (show (decide (n ≤ 64) && aok true q n) = false by simp; omega)
    go_enter Tryz.func22, Tryz.ntmps22
    go_wp2_with fail
    refine K.out.mono ?_
    rintro e w1 ⟨rfl, hQ⟩
    have HQ := Lib.hid (hQ.2.mono (G := FB g b B) fun _ _ h => .inl h)
    clear hQ
    go_wp2
    go_ret
    rw [HO.out]
    exact ⟨rfl, fun h => absurd h (by simp), HQ.out⟩
  have hn' : ¬ (64 : Int) < n := by omega
  have hn64 : decide (n ≤ 64) = true := by simp; omega
  rw [hn64, Bool.true_and]
  clear hn64
  go_enter Tryz.func22, Tryz.ntmps22
  go_wp2_with fail
  refine K.out.mono ?_
  rintro e w1 ⟨rfl, hQ⟩
  have hA1 := hQ.keeps hA hne
  have hT1 := hQ.2.mono (G := FB g b B) fun _ _ h => .inl h
  have HI := Lib.hid (And.intro hQ.1 (And.intro hA1 hT1))
  have hz0 : ({ z with ea := none, en := 0, ec := 0 } : Reply) = z := by
    obtain ⟨h1, h2, h3⟩ := h0
    cases z
    simp only at h1 h2 h3
    subst h1 h2 h3
    rfl
  have HZ := Lib.hid hz0
  have HQL := Lib.hid (entsK_len (whole := true) hql)
  clear hQ hA1 hT1 hA hR K h0 hz0 hql
  go_wp2
  go_loopw [7, 11] (fun ev iv wr => ∃ (k : Nat) (A : Option Addr) (c : Nat) (ee : Int), k ≤ n ∧ ev = .int .i64 ee ∧ iv = .int .i64 k ∧ RdF wr g (entsK true q k).2 ∧ ((ee == 0) && ((entsK true q k).2.e == 0)) = aok true q k ∧ Blk wr b 35 ({ z with ea := A, en := k, ec := c } : Reply).vals ∧ RowS wr B 56 15 (.slice A k c) ((entsK true q k).1.map Entry.vals) ∧ Touch (FB g b B) w wr) (fun _ iv _ => n - (intOf iv).toNat)
  case atStart => exact ⟨0, none, 0, 0, Nat.zero_le _, rfl, rfl, HI.out.1, by unfold aok; simp [entsK], by rw [HZ.out]; exact HI.out.2.1, RowS.none_, HI.out.2.2⟩
  case round =>
    clear HI HZ
    obtain ⟨k, A, c, ee, hk, rfl, rfl, hR, hok, hA, hRow, hT⟩ := hrel
    have hE := ReadsF.err hR
    by_cases hlt : k < n
    · have hlt' : (k : Int) < n := by omega
      cases hao : aok true q k
      case true =>
        rw [hao] at hok
        obtain ⟨rfl, he⟩ := (bothZ hok).1 rfl
        have hs1 : entsK true q (k + 1) = ((entsK true q k).1 ++ [(oneE true (entsK true q k).2).1], (oneE true (entsK true q k).2).2) := rfl
        have hone := entsK_one true q k
        have hlen := HQL.out k
        have hok2 : aok true q (k + 1) = oneOk true (entsK true q k).2 := by
          rw [aok_succ, hao]; rfl
        have hsw := hT.size
        rw [he] at hE
        have hlA := oneA_len hlen
        generalize (entsK true q k).2 = qk at *
        have hoo : oneOk true qk = (((gotR Post.ok postZ (rPost (oneA qk).2)).2 == 0) && ((oneE true qk).2.e == 0)) := rfl
        have hoe : oneE true qk = ({ (oneA qk).1 with attr := (gotR Post.ok postZ (rPost (oneA qk).2)).1, fh := (rOpaque 64 (rPost (oneA qk).2).2).1 }, (rOpaque 64 (rPost (oneA qk).2).2).2) := rfl
        have hoa : oneA qk = (⟨((rU64 qk).1 : Int), (rOpaque 255 (rU64 qk).2).1, ((rU64 (rOpaque 255 (rU64 qk).2).2).1 : Int), postZ8, []⟩, (rU64 (rOpaque 255 (rU64 qk).2).2).2) := rfl
        rw [hoe] at hs1 hoo
        rw [hoo] at hok2
        obtain ⟨⟨x1, q1⟩, h1⟩ : ∃ y, rU64 qk = y := ⟨_, rfl⟩
        obtain ⟨⟨l2, q2⟩, h2⟩ : ∃ y, rOpaque 255 q1 = y := ⟨_, rfl⟩
        obtain ⟨⟨x3, q3⟩, h3⟩ : ∃ y, rU64 q2 = y := ⟨_, rfl⟩
        simp only [h1, h2, h3] at hoa
        rw [hoa] at hs1 hok2 hlA
        simp only at hs1 hok2 hlA
        have g4 := rPost_len8 hlA
        have K4 := fun W (h : RdF W g q3) => refGetPost_any g q3 W h
        have K5 := fun W (h : RdF W g (rPost q3).2) => refTextR_any g 64 (rPost q3).2 W h g4
        simp only [gotV] at K4
        generalize (rPost q3).2 = q4 at *
        obtain ⟨⟨pp, np⟩, h4⟩ : ∃ y, gotR Post.ok postZ (rPost q3) = y := ⟨_, rfl⟩
        rw [h4] at hs1 hok2 K4
        obtain ⟨⟨l5, q5⟩, h5⟩ : ∃ y, rOpaque 64 q4 = y := ⟨_, rfl⟩
        rw [h5] at hs1 hok2 K5
        simp only at hs1 hok2 K4 K5
        have K4 := Lib.hid K4
        have K5 := Lib.hid K5
        have g1 : q1.s.length ≤ 9223372036854775807 := by have := Nat.le_trans (rU64_len hlen) hlen; rw [h1] at this; exact this
        have K1 := Lib.hid (fun W (h : RdF W g qk) => refU8_any g qk W h)
        have K2 := Lib.hid (fun W (h : RdF W g q1) => refTextR_any g 255 q1 W h g1)
        have K3 := Lib.hid (fun W (h : RdF W g q2) => refU8_any g q2 W h)
        rw [h1] at K1
        rw [h2] at K2
        rw [h3] at K3
        simp only at K1 K2 K3
        have hx0 := (Below.refl wr.heap.size wr).alloc (Nat.le_refl _) (.cells entryZ8.vals.toArray 56)
        have I0 : InE g b B wr.heap.size qk entryZ8.vals { z with ea := A, en := k, ec := c } ((entsK true q k).1.map Entry.vals) w (wr.alloc (.cells entryZ8.vals.toArray 56)) :=
          ⟨hgB, hbB, hne, by omega, hR.stays hx0, Blk.new wr 56 entryZ8.vals, hA.stays hx0, RowS.stays hRow hx0, fun j hj => by have := (RowS.lt hRow j hj).2; omega, hT.then_ (Touch.of_below hx0 _)⟩
        obtain ⟨wy, hwy⟩ : ∃ V, V = wr.alloc (.cells entryZ8.vals.toArray 56) := ⟨_, rfl⟩
        rw [← hwy] at I0
        have HWY := Lib.hid hwy
        have HS := Lib.hid hs1
        have HOK := Lib.hid hok2
        have hiw : IntKind.i64.wrap ((k : Int) + 1) = (k : Int) + 1 := IntWalk.i64_in _ (by omega)
        clear hR hRow hT hs1 hA hwy h1 h2 h3 h4 h5 hok hok2 hoe hoo hoa hlen hlA hx0
        go_wp2_with fail
        change Calls _ _ _ (wr.alloc (.cells entryZ8.vals.toArray 56)) _
        rw [← HWY.out]
        refine (K1.out _ I0.R).mono ?_
        rintro e w1 ⟨rfl, hQ⟩
        have I1 := I0.read hQ
        have c0 := I1.E.cell 0
        have z0 := I1.E.frozen 0
        have I2 := I1.set 0 (.int .i64 x1)
        clear hQ I0 I1
        go_wp2_with fail
        obtain ⟨wa, hw⟩ : ∃ V, V = w1.setCell ⟨wr.heap.size, 0, none⟩ (.int .i64 x1) := ⟨_, rfl⟩
        rw [← hw] at I2
        have HWN := Lib.hid hw
        clear hw
        rw [← HWN.out]
        clear HWN c0 z0
        refine (K2.out _ I2.R).mono ?_
        rintro e w2 ⟨rfl, hQ⟩
        have I3 := I2.read hQ
        have c0 := I3.E.cell 1
        have z0 := I3.E.frozen 1
        have I4 := I3.set 1 (.string (bs l2))
        clear hQ I2 I3
        go_wp2_with fail
        obtain ⟨wb, hw⟩ : ∃ V, V = w2.setCell ⟨wr.heap.size, 1, none⟩ (.string (bs l2)) := ⟨_, rfl⟩
        rw [← hw] at I4
        have HWN := Lib.hid hw
        clear hw
        rw [← HWN.out]
        clear HWN c0 z0
        refine (K3.out _ I4.R).mono ?_
        rintro e w3 ⟨rfl, hQ⟩
        have I5 := I4.read hQ
        have c0 := I5.E.cell 2
        have z0 := I5.E.frozen 2
        have I6 := I5.set 2 (.int .i64 x3)
        clear hQ I4 I5
        go_wp2_with fail
        obtain ⟨wc, hw⟩ : ∃ V, V = w3.setCell ⟨wr.heap.size, 2, none⟩ (.int .i64 x3) := ⟨_, rfl⟩
        rw [← hw] at I6
        have HWN := Lib.hid hw
        clear hw
        rw [← HWN.out]
        clear HWN c0 z0
        refine (K4.out _ I6.R).mono ?_
        rintro e w4 ⟨rfl, hQ⟩
        have I7 := I6.read hQ
        have bE := I7.E
        have I8 := I7.sets 3 pp.vals
        clear hQ I6 I7
        obtain ⟨wd, hw⟩ : ∃ V, V = w4.setCells wr.heap.size 3 pp.vals := ⟨_, rfl⟩
        rw [← hw] at I8
        have HWN := Lib.hid hw
        clear hw
        go_wp2_with (first
          | (refine wpList_store_part (by rfl) 27 _ _ (by rfl) wr.heap.size 3 pp.vals _ bE (by simp [Post.len, Entry.len]) (by rfl) (by rfl) (by kernel_rfl) (Post.one _) ?_; rw [← HWN.out])
          | fail)
        clear HWN bE
        refine (K5.out _ I8.R).mono ?_
        rintro e w5 ⟨rfl, hQ⟩
        have I9 := I8.read hQ
        have c0 := I9.E.cell 14
        have z0 := I9.E.frozen 14
        have I10 := I9.set 14 (.string (bs l5))
        clear hQ I8 I9
        go_wp2_with fail
        obtain ⟨wf, hw⟩ : ∃ V, V = w5.setCell ⟨wr.heap.size, 14, none⟩ (.string (bs l5)) := ⟨_, rfl⟩
        rw [← hw] at I10
        have HWN := Lib.hid hw
        clear hw
        rw [← HWN.out]
        clear HWN c0 z0
        generalize wf = wc at *
        replace I6 : InE g b B wr.heap.size q5 (Entry.vals ⟨x1, l2, x3, pp, l5⟩) { z with ea := A, en := k, ec := c } ((entsK true q k).1.map Entry.vals) w wc := I10
        clear I10
        have r4 : rowOf wc wr.heap.size 0 15 = some (Entry.vals ⟨x1, l2, x3, pp, l5⟩).toArray := I6.E.row 0 15 (by simp [Entry.len])
        have c56 : wc.cell? ⟨b, 56, none⟩ = some (.slice A k c) := I6.C.cell 56
        have f56 := I6.C.frozen 56
        have hap := RowS.append (P := Tryz.prog) 32 32 i0 Tryz.underlying32 hi hz hsize hby rfl (by omega) (by omega) (show RowS wc.drew _ _ _ _ _ from I6.L) (by have := I6.T.size; have : wc.drew.heap.size = wc.heap.size := rfl; omega) (Entry.vals ⟨x1, l2, x3, pp, l5⟩) (Entry.len _) (Entry.one _) (by rw [List.length_map, hone]; omega)
        have HA := Lib.hid hap
        have HI6 := Lib.hid I6
        have S0 : wc.drew.cell? ⟨b, 56, none⟩ = some (.slice A k c) ∧ wc.drew.frozen? ⟨b, 56, none⟩ = false ∧ rowOf wc.drew wr.heap.size 0 15 = some (Entry.vals ⟨x1, l2, x3, pp, l5⟩).toArray := ⟨c56, f56, r4⟩
        have S3 : (wc.alloc (.cells (Entry.vals ⟨x1, l2, x3, pp, l5⟩).toArray 56)).cell? ⟨b, 56, none⟩ = some (.slice A k c) := (I6.C.alloc _).cell 56
        clear hap I6
        go_region_law (first
          | (refine step_append_by (by rfl) (.tmp 179) (.tmp 181) #[32, 32] (by rfl) _ _ (by rfl) (by rfl) HA.out ?_; rintro v' w' ⟨hR', hb'⟩; obtain ⟨A', c', rfl, -⟩ := RowS.at_ hR'; have S4 : w'.cell? ⟨b, 56, none⟩ = some (.slice A k c) ∧ w'.frozen? ⟨b, 56, none⟩ = false := ⟨((show Blk wc.drew _ _ _ from HI6.out.C).below (hb' wc.drew (Below.refl _ _)) hbB).cell 56, ((show Blk wc.drew _ _ _ from HI6.out.C).below (hb' wc.drew (Below.refl _ _)) hbB).frozen 56⟩))
        all_goals
          have hn1 : ((entsK true q k).1.map Entry.vals ++ [Entry.vals ⟨x1, l2, x3, pp, l5⟩]).length = k + 1 := by simp [hone]
          rw [hn1] at hR'
          have hD := HI6.out.done hR' (hb' wc ((Below.refl _ _).drew))
          have HD := Lib.hid hD
          clear hD hR' hb' S0 S3 S4 HA HI6 c56 f56 r4 K1 K2 K3 K4 K5 hn1
          go_wp2
          go_roundw
          case rel => exact ⟨k + 1, A', c', np, by omega, rfl, by go_num, by rw [HS.out]; exact HD.out.1, by rw [HS.out]; exact HOK.out.symm, HD.out.2.1, by rw [HS.out, List.map_append]; exact HD.out.2.2.1, HD.out.2.2.2⟩
          case measure => simp [intOf]; omega
      case false =>
        rw [hao] at hok
        have HO := Lib.hid (show aok true q n = false from aok_no hao hk)
        have HT := Lib.hid hT
        have hbz := (bothZ hok).2 rfl
        generalize (entsK true q k).2.e = ek at *
        clear hT hRow hA hR hok hao
        by_cases he : ek = 0
        · have hee : ¬ ee = 0 := fun h => hbz ⟨h, he⟩
          have hee' : (ee == 0) = false := by simpa using hee
          subst he
          go_wp2
          go_ret
          rw [HO.out]
          exact ⟨rfl, fun h => absurd h (by simp), HT.out⟩
        · have he' : (ek == 0) = false := by simpa using he
          clear hbz
          by_cases hee : ee = 0
          · subst hee
            go_wp2
            go_ret
            rw [HO.out]
            exact ⟨rfl, fun h => absurd h (by simp), HT.out⟩
          · have hee' : (ee == 0) = false := by simpa using hee
            go_wp2
            go_ret
            rw [HO.out]
            exact ⟨rfl, fun h => absurd h (by simp), HT.out⟩
    · obtain rfl : k = n := by omega
      have HF := Lib.hid (And.intro hR (And.intro hA (And.intro hRow hT)))
      have hone := entsK_one true q k
      obtain ⟨ek, hek⟩ : ∃ v, v = (entsK true q k).2.e := ⟨_, rfl⟩
      rw [← hek] at hE hok
      have HO := Lib.hid hok.symm
      clear hT hRow hA hR hek hok
      by_cases hee : ee = 0
      · subst hee
        by_cases h0 : ek = 0
        · subst h0
          go_wp2
          go_ret
          rw [HO.out, hone]
          exact ⟨rfl, fun _ => ⟨A, c, HF.out.2.1, HF.out.1, HF.out.2.2.1⟩, HF.out.2.2.2⟩
        · have h0' : (ek == 0) = false := by simpa using h0
          go_wp2
          go_ret
          rw [HO.out, h0']
          exact ⟨rfl, fun h => absurd h (by simp), HF.out.2.2.2⟩
      · have hee' : (ee == 0) = false := by simpa using hee
        go_wp2
        go_ret
        rw [HO.out, hee']
        exact ⟨rfl, fun h => absurd h (by simp), HF.out.2.2.2⟩
end Go.Proofs.YtapcjojlkeaadaaGreatDoor

/-
  Layer 8, walks: the document takes the field of any letter. Conditions: a reader and results at blocks of their own; no rows yet at a row's letter; machine texts.
-/
namespace Go.Proofs.YtapcjojlkeaadaaGreatDoor
open Go.RowKit
attribute [local go_sem ↓] Go.wp_at_zero Go.wp_at_succ
attribute [local go_sem] rowAt_ptr rowOf_drew rowOf_drewN rowOf_alloc_past rowOf_new

def pRow (c : Nat) : Bool := c == 110 || (c == 108 || c == 112)
/-- results as data, at block b, their rows in blocks from B on; none yet, if 'row' is false -/
def There8F (B b : Nat) (row : Bool) (d : RepD) (W : World) : Prop :=
  ∃ z : Reply, Blk W b 35 z.vals ∧ z.bare = d.f ∧ RowS W B 56 15 (.slice z.ea z.en z.ec) (d.es.map Entry.vals) ∧ RowS W B 3 1 (.slice z.ua z.un z.uc) (d.us.map int1) ∧
    (row = false → (z.ea = none ∧ z.en = 0 ∧ z.ec = 0) ∧ (z.ua = none ∧ z.un = 0 ∧ z.uc = 0))
theorem RowS.pastF {w w' : World} {B e sz : Nat} {v : Value} {rows : List (List Value)} {g b : Nat} (h : RowS w B e sz v rows) (hg : g < B) (hb : b < B) (hT : Touch (fun k => k = g ∨ k = b) w w') : RowS w' B e sz v rows :=
  RowS.touch h hT fun k hk hf => by have := (RowS.lt h k hk).1; omega
theorem RowS.nil_of {w : World} {B e sz : Nat} {rows : List (List Value)} (h : RowS w B e sz (.slice none 0 0) rows) : rows = [] := by
  rcases h.2.2 with ⟨_, h⟩ | ⟨g, cap, cur, hv, _⟩
  · exact List.eq_nil_of_length_eq_zero h
  · cases hv
theorem Touch.fb {g b B : Nat} {w w' : World} (h : Touch (fun k => k = g ∨ k = b) w w') : Touch (FB g b B) w w' := h.mono fun _ _ hk => hk.elim .inl fun h => .inr (.inl h)
/-- what 'take' gives -/
def TakenF (c g b B : Nat) (row : Bool) (d : RepD) (r : Rs) (w : World) (e : Ending) (w' : World) : Prop :=
  e = .returned (.bool (pTkOk c r)) ∧ (pTkOk c r = true → There8F B b (row || pRow c) (pTk c d r).1 w' ∧ RdF w' g (pTk c d r).2) ∧ Touch (FB g b B) w w'

theorem ftake_any (g b B : Nat) (row : Bool) (d : RepD) (r : Rs) (c : Nat) (hc : pLetter c) (w : World) (hR : RdF w g r) (hD : There8F B b row d w) (hne : b ≠ g) (hg : g < B) (hb : b < B) (hB : B ≤ w.heap.size) (hrow : pRow c = true → row = false) (hl : r.s.length ≤ 9223372036854775807) :
    Calls Tryz.prog 22 #[.pointer (some ⟨g, 0, none⟩), .pointer (some ⟨b, 0, none⟩), .int .u8 c] w (TakenF c g b B row d r w) := by
  obtain ⟨z, hA, hz, hE, hU, h0⟩ := hD
  obtain ⟨df, des, dus⟩ := d
  simp only at hz hE hU
  subst hz
  have hor : ∀ x : Bool, (x || false) = x := fun x => by simp
  rcases hc with rfl | rfl | rfl | rfl | rfl | rfl | rfl | rfl | rfl | rfl | rfl | rfl | rfl | rfl
  · refine (ftake_h g b z r w hR hA hne hl).mono ?_
    rintro e w' ⟨rfl, hT⟩
    exact ⟨rfl, fun _ => ⟨⟨_, hT.C, rfl, hE.pastF hg hb hT.T, hU.pastF hg hb hT.T, fun h => h0 ((hor row).symm.trans h)⟩, hT.R⟩, hT.T.fb⟩
  · refine (ftake_a g b z r w hR hA hne hl).mono ?_
    rintro e w' ⟨rfl, hT⟩
    exact ⟨rfl, fun _ => ⟨⟨_, hT.C, rfl, hE.pastF hg hb hT.T, hU.pastF hg hb hT.T, fun h => h0 ((hor row).symm.trans h)⟩, hT.R⟩, hT.T.fb⟩
  · refine (ftake_d2 g b z r w hR hA hne hl).mono ?_
    rintro e w' ⟨rfl, hT⟩
    exact ⟨rfl, fun _ => ⟨⟨_, hT.C, rfl, hE.pastF hg hb hT.T, hU.pastF hg hb hT.T, fun h => h0 ((hor row).symm.trans h)⟩, hT.R⟩, hT.T.fb⟩
  · refine (ftake_w g b z r w hR hA hne hl).mono ?_
    rintro e w' ⟨rfl, hT⟩
    exact ⟨rfl, fun _ => ⟨⟨_, hT.C, rfl, hE.pastF hg hb hT.T, hU.pastF hg hb hT.T, fun h => h0 ((hor row).symm.trans h)⟩, hT.R⟩, hT.T.fb⟩
  · refine (ftake_w2 g b z r w hR hA hne hl).mono ?_
    rintro e w' ⟨rfl, hT⟩
    exact ⟨rfl, fun _ => ⟨⟨_, hT.C, rfl, hE.pastF hg hb hT.T, hU.pastF hg hb hT.T, fun h => h0 ((hor row).symm.trans h)⟩, hT.R⟩, hT.T.fb⟩
  · refine (ftake_x g b z r w hR hA hne hl).mono ?_
    rintro e w' ⟨rfl, hT⟩
    exact ⟨rfl, fun _ => ⟨⟨_, hT.C, rfl, hE.pastF hg hb hT.T, hU.pastF hg hb hT.T, fun h => h0 ((hor row).symm.trans h)⟩, hT.R⟩, hT.T.fb⟩
  · refine (ftake_c g b z r w hR hA hne hl).mono ?_
    rintro e w' ⟨rfl, hT⟩
    exact ⟨rfl, fun _ => ⟨⟨_, hT.C, rfl, hE.pastF hg hb hT.T, hU.pastF hg hb hT.T, fun h => h0 ((hor row).symm.trans h)⟩, hT.R⟩, hT.T.fb⟩
  · refine (ftake_s g b z r w hR hA hne hl).mono ?_
    rintro e w' ⟨rfl, hT⟩
    exact ⟨rfl, fun _ => ⟨⟨_, hT.C, rfl, hE.pastF hg hb hT.T, hU.pastF hg hb hT.T, fun h => h0 ((hor row).symm.trans h)⟩, hT.R⟩, hT.T.fb⟩
  · refine (ftake_v g b z r w hR hA hne hl).mono ?_
    rintro e w' ⟨rfl, hT⟩
    exact ⟨rfl, fun _ => ⟨⟨_, hT.C, rfl, hE.pastF hg hb hT.T, hU.pastF hg hb hT.T, fun h => h0 ((hor row).symm.trans h)⟩, hT.R⟩, hT.T.fb⟩
  · refine (ftake_e g b z r w hR hA hne hl).mono ?_
    rintro e w' ⟨rfl, hT⟩
    exact ⟨rfl, fun _ => ⟨⟨_, hT.C, rfl, hE.pastF hg hb hT.T, hU.pastF hg hb hT.T, fun h => h0 ((hor row).symm.trans h)⟩, hT.R⟩, hT.T.fb⟩
  · refine (ftake_d g b z r w hR hA hne hl).mono ?_
    rintro e w' ⟨rfl, hT⟩
    exact ⟨rfl, fun _ => ⟨⟨_, hT.C, rfl, hE.pastF hg hb hT.T, hU.pastF hg hb hT.T, fun h => h0 ((hor row).symm.trans h)⟩, hT.R⟩, hT.T.fb⟩
  · obtain ⟨he0, hu0⟩ := h0 (hrow rfl)
    have hes : des.map Entry.vals = [] := by
      obtain ⟨e1, e2, e3⟩ := he0
      rw [e1, e2, e3] at hE
      exact hE.nil_of
    refine (ftake_n g b B z r w hR hA hne hg hb hB hu0).mono ?_
    rintro e w' ⟨rfl, hok, hT⟩
    refine ⟨rfl, fun h => ?_, hT⟩
    obtain ⟨A, cp, hk, hr, hr2⟩ := hok h
    refine ⟨⟨_, hk, rfl, ?_, hr2, fun h => ?_⟩, hr⟩
    · show RowS w' B 56 15 (.slice z.ea z.en z.ec) (des.map Entry.vals)
      obtain ⟨e1, e2, e3⟩ := he0
      rw [e1, e2, e3, hes]
      exact RowS.none_
    · simp [pRow] at h

  · obtain ⟨he0, hu0⟩ := h0 (hrow rfl)
    have hus : dus.map int1 = [] := by
      obtain ⟨e1, e2, e3⟩ := hu0
      rw [e1, e2, e3] at hU
      exact hU.nil_of
    refine (ftake_l g b B z r w hR hA hne hg hb hB he0 hl).mono ?_
    rintro e w' ⟨rfl, hok, hT⟩
    refine ⟨rfl, fun h => ?_, hT⟩
    obtain ⟨A, cp, hk, hr, hr2⟩ := hok h
    refine ⟨⟨_, hk, rfl, hr2, ?_, fun h => ?_⟩, hr⟩
    · show RowS w' B 3 1 (.slice z.ua z.un z.uc) (dus.map int1)
      obtain ⟨e1, e2, e3⟩ := hu0
      rw [e1, e2, e3, hus]
      exact RowS.none_
    · simp [pRow] at h

  · obtain ⟨he0, hu0⟩ := h0 (hrow rfl)
    have hus : dus.map int1 = [] := by
      obtain ⟨e1, e2, e3⟩ := hu0
      rw [e1, e2, e3] at hU
      exact hU.nil_of
    refine (ftake_p g b B z r w hR hA hne hg hb hB he0 hl).mono ?_
    rintro e w' ⟨rfl, hok, hT⟩
    refine ⟨rfl, fun h => ?_, hT⟩
    obtain ⟨A, cp, hk, hr, hr2⟩ := hok h
    refine ⟨⟨_, hk, rfl, hr2, ?_, fun h => ?_⟩, hr⟩
    · show RowS w' B 3 1 (.slice z.ua z.un z.uc) (dus.map int1)
      obtain ⟨e1, e2, e3⟩ := hu0
      rw [e1, e2, e3, hus]
      exact RowS.none_
    · simp [pRow] at h

end Go.Proofs.YtapcjojlkeaadaaGreatDoor
