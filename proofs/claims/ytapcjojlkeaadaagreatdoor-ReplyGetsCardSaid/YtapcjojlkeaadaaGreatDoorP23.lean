/-
  Layer 8, walks: entries are taken. Condition: texts of Go's length.
-/
import Derived.Test.YtapcjojlkeaadaaGreatDoorP22
import Derived.Test.YtapcjojlkeaadaaGreatDoorP03
import Derived.Great.BuildSlice
import Derived.Test.YtapcjojlkeaadaaGreatDoorP11
namespace Go.Proofs.YtapcjojlkeaadaaGreatDoor
open Go.RowKit
attribute [local go_sem ↓] Go.wp_at_zero Go.wp_at_succ
attribute [local go_sem] rowAt_ptr rowOf_drew rowOf_drewN rowOf_alloc_past rowOf_new
attribute [local go_sem ↓] ldEntry

attribute [local go_sem] Entry.at0 Entry.lat0 Entry.at1 Entry.lat1 Entry.at2 Entry.lat2 Entry.at3 Entry.lat3 Entry.at4 Entry.lat4 Entry.at5 Entry.lat5 Entry.at6 Entry.lat6 Entry.at7 Entry.lat7 Entry.at8 Entry.lat8 Entry.at9 Entry.lat9 Entry.at10 Entry.lat10 Entry.at11 Entry.lat11 Entry.at12 Entry.lat12 Entry.at13 Entry.lat13 Entry.at14 Entry.lat14 Entry.sub0_15 Entry.lsub0_15 Entry.sub3_11 Entry.lsub3_11 Entry.sub4_10 Entry.lsub4_10 Entry.len

set_option maxRecDepth 20000 in
set_option maxHeartbeats 800000 in
theorem taken2_any (g h b : Nat) (c : Int) (whole : Bool) (hc : (c == 112) = whole) (r : Rs) (w : World) (hR : Rd w g r) (hH : Blk w h 48 [.pointer (some ⟨g, 0, none⟩)]) (hL : Blk w b 21 [.int .i32 c]) (hl : r.s.length ≤ 9223372036854775807) :
    Calls Tryz.prog 43 #[.pointer (some ⟨h, 0, none⟩), .pointer (some ⟨b, 0, none⟩)] w (OneP whole r g w) := by
  have hx := (Below.refl w.heap.size w).alloc (Nat.le_refl _) (.cells entryZ8.vals.toArray 56)
  have br := Blk.new w 56 entryZ8.vals
  have hgl := hR.lt
  have hne := hH.ne_ hR.1 (by decide)
  have nr : w.heap.size ≠ g := by omega
  obtain ⟨w0, hw0⟩ : ∃ V, V = w.alloc (.cells entryZ8.vals.toArray 56) := ⟨_, rfl⟩
  rw [← hw0] at hx br
  replace hR := hR.stays hx
  replace hH := hH.stays hx
  replace hL := hL.stays hx
  have hT := Touch.of_below hx (fun k => k = g)
  have HW0 := Lib.hid hw0
  have c1 : w0.cell? ⟨h, 0, none⟩ = some (.pointer (some ⟨g, 0, none⟩)) := hH.cell 0
  have c2 : w0.cell? ⟨b, 0, none⟩ = some (.int .i32 c) := hL.cell 0
  have K := Lib.hid (one_any g whole r w0 hR hl)
  clear hw0 hx hR hH hL
  go_enter Tryz.func43, Tryz.ntmps43
  go_upto_region 1 with fail
  change Code.wp _ _ _ _ (w.alloc (.cells entryZ8.vals.toArray 56))
  rw [← HW0.out]
  go_wp2_with fail
  refine K.out.mono ?_
  rintro e w1 ⟨x, rfl, hx, hT1⟩
  replace br := br.touch hT1 nr
  replace hT := hT.then_ hT1
  obtain ⟨w2, hw2⟩ : ∃ V, V = w1.setCells w.heap.size 0 x.vals := ⟨_, rfl⟩
  have bz : Blk w2 w.heap.size 56 x.vals := by rw [hw2]; exact br.whole (by rfl)
  have hT2 : Touch (fun k => k = g) w w2 := by rw [hw2]; exact Touch.setCells (.inr (Nat.le_refl _)) x.vals 0 w1 hT
  have hR2 : oneOk whole r = true → x = (oneE whole r).1 ∧ Rd w2 g (oneE whole r).2 := fun ho => ⟨(hx ho).1, by rw [hw2]; exact (hx ho).2.touch (Touch.setCells (F := fun k => k = w.heap.size) (.inl rfl) x.vals 0 w1 (Touch.refl _ _)) (fun hh => nr hh.symm)⟩
  have HW2 := Lib.hid hw2
  have HL := Lib.hid (And.intro bz (And.intro hT2 hR2))
  clear hw2 bz hT2 hR2 hx hT hT1 c1 c2
  go_wp2_with (first
    | (refine wpList_store_whole (by rfl) 56 _ _ (by rfl) w.heap.size x.vals _ br (by rfl) (by rfl) (by rfl) (by kernel_rfl) (Entry.one _) ?_; rw [← HW2.out])
    | fail)
  refine ret_cells2 w.heap.size 0 x.vals (.bool (oneOk whole r)) Tryz.results43 Tryz.underlying56 rfl (by kernel_rfl) rfl rfl HL.out.1.range rfl ?_
  exact ⟨x, rfl, HL.out.2.2, HL.out.2.1⟩
end Go.Proofs.YtapcjojlkeaadaaGreatDoor

/-
  A slice literal of one struct whose cells are a term. No condition but the struct's size.
-/
namespace Go.Proofs.YtapcjojlkeaadaaGreatDoor
open Go.RowKit

theorem fill_one (s : Nat) (hs : 0 < s) (base c : Array Value) (hb : base.size = s) (hc : c.size = s) : Instr.fill (fun i => some (i * s, s)) base [(0, .agg c)] = some c := by
  have hv : ∀ v ∈ [Value.agg c], v.cells.size = s := fun v h => by
    obtain rfl := List.mem_singleton.1 h
    exact hc
  obtain ⟨r, hr, hsz, hk⟩ := Great.fill_dense hs [Value.agg c] 0 base hv (by simp only [List.length_cons, List.length_nil]; omega)
  have hr2 : Instr.fill (fun i => some (i * s, s)) base [(0, .agg c)] = some r := hr
  rw [hr2]
  congr 1
  apply Array.ext
  · omega
  · intro k h1 h2
    have h3 := hk k
    have hk2 : k < s := by omega
    rw [if_pos (by simp only [List.length_cons, List.length_nil]; omega), Nat.div_eq_of_lt hk2, Nat.mod_eq_of_lt hk2] at h3
    have h4 : r[k]? = c[k]? := h3
    rw [Array.getElem?_eq_getElem h1, Array.getElem?_eq_getElem h2] at h4
    exact Option.some.inj h4
theorem wpList_buildSlice_one {P : Program} {ops : Array Oper} {rest : List Oper} {o : Oper} {a : Act} {w : World} {Q : Exit → Act → World → Prop} (hg : o.guard = none) (t e : TypeId) (x : Operand) (ho : o.op = .buildSlice t 1 #[(0, x)])
    (cs : List Value) (hx : a.eval x = .agg cs.toArray) (hu : P.underlying t = some (.slice e)) (ie : TypeInfo) (z : Value) (hie : P.info? e = some ie) (hz : ie.zero = some z) (_hzs : z.cells.size = cs.length) (hsize : ie.size = cs.length) (h0 : 0 < cs.length) (hsm : cs.length ≤ 1000)
    (h : wpList P ops Q rest (a.put o.dst (.slice (some ⟨w.heap.size, 0, none⟩) 1 1)) (w.alloc (.cells cs.toArray e))) : wpList P ops Q (o :: rest) a w := by
  refine wpList_buildSlice hg t e 1 #[(0, x)] ho cs.toArray ie z hu hie hz (by rw [hsize]; omega) (by rw [hsize]; omega) ?_ h
  rw [hsize]
  have hm : ((#[(0, x)] : Array (Nat × Operand)).map fun (i, x) => (i, a.eval x)).toList = [(0, .agg cs.toArray)] := by simp [hx]
  rw [hm]
  exact fill_one cs.length h0 _ _ (by simp) (by simp)
end Go.Proofs.YtapcjojlkeaadaaGreatDoor


/-
  Layer 8, walks: some entries are taken. Condition: texts of Go's length.
-/
namespace Go.Proofs.YtapcjojlkeaadaaGreatDoor
open Go.RowKit
attribute [local go_sem ↓] Go.wp_at_zero Go.wp_at_succ
attribute [local go_sem] rowAt_ptr rowOf_drew rowOf_drewN rowOf_alloc_past rowOf_new
attribute [local go_sem ↓] ldEntry

attribute [local go_sem] Entry.at0 Entry.lat0 Entry.at1 Entry.lat1 Entry.at2 Entry.lat2 Entry.at3 Entry.lat3 Entry.at4 Entry.lat4 Entry.at5 Entry.lat5 Entry.at6 Entry.lat6 Entry.at7 Entry.lat7 Entry.at8 Entry.lat8 Entry.at9 Entry.lat9 Entry.at10 Entry.lat10 Entry.at11 Entry.lat11 Entry.at12 Entry.lat12 Entry.at13 Entry.lat13 Entry.at14 Entry.lat14 Entry.sub0_15 Entry.lsub0_15 Entry.sub3_11 Entry.lsub3_11 Entry.sub4_10 Entry.lsub4_10 Entry.len

theorem oneA_len {r : Rs} (h : r.s.length ≤ 9223372036854775807) : (oneA r).2.s.length ≤ 9223372036854775807 := by
  have h1 := Nat.le_trans (rU64_len h) h
  have h2 := Nat.le_trans (rOpaque_len8 (n := 255) h1) h1
  exact Nat.le_trans (rU64_len h2) h2
theorem oneE_len {whole : Bool} {r : Rs} (h : r.s.length ≤ 9223372036854775807) : (oneE whole r).2.s.length ≤ 9223372036854775807 := by
  have h3 := oneA_len h
  unfold oneE
  split
  · have h4 := rPost_len8 h3
    exact Nat.le_trans (rOpaque_len8 (n := 64) h4) h4
  · exact h3
theorem entsK_len {whole : Bool} {r : Rs} (h : r.s.length ≤ 9223372036854775807) : ∀ k, (entsK whole r k).2.s.length ≤ 9223372036854775807
  | 0 => h
  | k + 1 => oneE_len (entsK_len h k)
theorem entsK_one (whole : Bool) (r : Rs) : ∀ k, (entsK whole r k).1.length = k
  | 0 => rfl
  | k + 1 => by simp [entsK, entsK_one whole r k]
def entsOk (whole : Bool) (r : Rs) : Bool := decide ((rU32 r).1 ≤ 64) && (((rU32 r).2.e == 0) && (List.range (rU32 r).1).all fun i => oneOk whole (entsK whole (rU32 r).2 i).2)

set_option maxRecDepth 20000 in
set_option maxHeartbeats 1600000 in
theorem someE_any (g h b : Nat) (c : Int) (whole : Bool) (hc : (c == 112) = whole) (r : Rs) (w : World) (hR : Rd w g r) (hH : Blk w h 48 [.pointer (some ⟨g, 0, none⟩)]) (hL : Blk w b 21 [.int .i32 c]) (hl : r.s.length ≤ 9223372036854775807) :
    Calls Tryz.prog 42 #[.pointer (some ⟨g, 0, none⟩), .int .i64 64, .func (.func 43) #[] #[.pointer (some ⟨h, 0, none⟩), .pointer (some ⟨b, 0, none⟩)]] w
      (SomeP 56 15 Entry.vals (entsOk whole r) (entsK whole (rU32 r).2 (rU32 r).1).1 g (entsK whole (rU32 r).2 (rU32 r).1).2 w) := by
  obtain ⟨i0, hi, hz, hsize, hby⟩ := info_parts infoEntryB
  have K := Lib.hid (rU32_any g r w hR hl)
  have hq := Nat.le_trans (rU32_len hl) hl
  have hqe := rU32_e (r := r)
  have hne := hH.ne_ hR.1 (by decide)
  have hnl := hL.ne_ hR.1 (by decide)
  have hgl := hR.lt
  have hhl := hH.lt
  have hll := hL.lt
  unfold entsOk
  clear hR hl
  generalize rU32 r = y at *
  obtain ⟨n, q⟩ := y
  simp only at hq hqe ⊢
  obtain ⟨OK, hOK⟩ : ∃ o, o = (decide (n ≤ 64) && ((q.e == 0) && (List.range n).all fun i => oneOk whole (entsK whole q i).2)) := ⟨_, rfl⟩
  rw [← hOK]
  have HOK := Lib.hid hOK
  clear hOK
  by_cases hn : 64 < n
  · have hn' : (64 : Int) < n := by omega
    have HO := Lib.hid (show OK = false by rw [HOK.out]; simp; omega)
    go_enter Tryz.func42, Tryz.ntmps42
    go_wp2_with fail
    refine K.out.mono ?_
    rintro e w1 ⟨rfl, hQ⟩
    have HQ := Lib.hid hQ
    clear hQ
    go_wp2
    go_ret2
    rw [HO.out]
    refine ⟨.slice none 0 0, rfl, fun h => ?_, fun _ => rfl, HQ.out.2⟩
    exact absurd h (by simp)
  have hn' : ¬ (64 : Int) < n := by omega
  have HLEN := Lib.hid (entsK_len (whole := whole) hq)
  go_enter Tryz.func42, Tryz.ntmps42
  go_wp2_with fail
  refine K.out.mono ?_
  rintro e w1 ⟨rfl, hQ⟩
  have hH1 := hH.touch hQ.2 hne
  have hL1 := hL.touch hQ.2 hnl
  have HQ := Lib.hid hQ
  have HQE := Lib.hid hqe
  clear hQ hH hL hqe
  go_wp2
  go_loopw [9, 18] (fun v i wr => ∃ k, k ≤ n ∧ i = .int .i64 k ∧ RowS wr w.heap.size 56 15 v ((entsK whole q k).1.map Entry.vals) ∧ Rd wr g (entsK whole q k).2 ∧ (0 < k → (entsK whole q k).2.e = 0) ∧ (k = 0 → v = .slice none 0 0) ∧ (∀ j, j < k → oneOk whole (entsK whole q j).2 = true) ∧ Blk wr h 48 [.pointer (some ⟨g, 0, none⟩)] ∧ Blk wr b 21 [.int .i32 c] ∧ Touch (fun k => k = g) w wr) (fun _ i _ => n - (intOf i).toNat)
  case atStart => exact ⟨0, by omega, rfl, RowS.none_, HQ.out.1, fun h => by omega, fun _ => rfl, fun j hj => by omega, hH1, hL1, HQ.out.2⟩
  case round =>
    obtain ⟨k, hk, rfl, hRow, hR, he, hv0, hall, hH, hL, hT⟩ := hrel
    have hgw := hR.lt
    have hsz := hT.size
    by_cases hlt : k < n
    · have hlt' : (k : Int) < n := by omega
      have KT := Lib.hid (taken2_any g h b c whole hc _ wr hR hH hL (HLEN.out k))
      have hs1 : entsK whole q (k + 1) = ((entsK whole q k).1 ++ [(oneE whole (entsK whole q k).2).1], (oneE whole (entsK whole q k).2).2) := rfl
      have hone := entsK_one whole q k
      cases hok : oneOk whole (entsK whole q k).2
      case true =>
        have he1 : (oneE whole (entsK whole q k).2).2.e = 0 := by
          unfold oneOk at hok
          simp at hok
          exact hok.2
        have HALL := Lib.hid (show ∀ j, j < k + 1 → oneOk whole (entsK whole q j).2 = true from fun j hj => by
          rcases Nat.lt_or_ge j k with h | h
          · exact hall j h
          · obtain rfl : j = k := by omega
            exact hok)
        clear hR hall
        go_wp2_with fail
        refine KT.out.mono ?_
        rintro e w2 ⟨x', rfl, hx, hT2⟩
        rw [hok]
        obtain ⟨hx1, hR2⟩ := hx hok
        rw [← hx1] at hs1
        clear hx hx1 hok KT
        generalize (oneE whole (entsK whole q k).2).2 = q1 at *
        have hx3 := (Below.refl w2.heap.size w2).alloc (Nat.le_refl _) (.cells x'.vals.toArray 56)
        have x3 := Blk.new w2 56 x'.vals
        have hRow3 := (RowS.touch hRow hT2 (fun j hj hg => by have := (RowS.lt hRow j hj).1; omega)).stays hx3
        have hH3 := (hH.touch hT2 hne).stays hx3
        have hL3 := (hL.touch hT2 hnl).stays hx3
        have hT3 := (hT.then_ hT2).then_ (Touch.of_below hx3 _)
        have hR3 := hR2.stays hx3
        obtain ⟨w3, hw3⟩ : ∃ V, V = w2.alloc (.cells x'.vals.toArray 56) := ⟨_, rfl⟩
        rw [← hw3] at x3 hRow3 hH3 hL3 hT3 hR3
        have HW3 := Lib.hid hw3
        have r3 := x3.row 0 15 (by simp [Entry.len])
        rw [show (x'.vals.drop 0).take 15 = x'.vals from rfl] at r3
        have hz3 := hT3.size
        have hap := RowS.append (P := Tryz.prog) 32 32 i0 Tryz.underlying32 hi hz hsize hby rfl (by omega) (by omega) hRow3 (by omega) x'.vals (Entry.len _) (Entry.one _) (by rw [List.length_map, hone]; omega)
        have HA := Lib.hid hap
        have HK := Lib.hid (And.intro hR3 (And.intro hH3 (And.intro hL3 hT3)))
        have HS := Lib.hid hs1
        have hiw : IntKind.i64.wrap ((k : Int) + 1) = (k : Int) + 1 := IntWalk.i64_in _ (by omega)
        clear hap hRow3 hRow hH hL hT hs1 hv0 hx3 hH3 hL3 hT3 hR3 hR2 hT2 hw3 x3
        go_wp2_with (first
          | (refine wpList_store_new (by rfl) 56 _ _ (by rfl) x'.vals entryZ8.vals w2 56 rfl (by rfl) (by rfl) (by rfl) (by kernel_rfl) (Entry.one _) ?_; rw [← HW3.out])
          | (refine wpList_buildSlice_one (by rfl) 32 56 (.tmp 28) (by rfl) x'.vals (by rfl) Tryz.underlying32 i0 _ hi hz rfl hsize (by rw [Entry.len]; omega) (by rw [Entry.len]; omega) ?_)
          | (refine wpList_append_by (by rfl) (.tmp 27) (.tmp 29) #[32, 32] (by rfl) _ _ (by rfl) (by rfl) HA.out ?_; rintro v' w' ⟨hR', hb'⟩)
          | fail)
        have hb1 := hb' w3 (Below.refl _ _)
        have HR := Lib.hid hR'
        have HQ2 := Lib.hid (Rd.belowQ HK.out.1 hb1 (by omega))
        have HH := Lib.hid (HK.out.2.1.below hb1 (by omega))
        have HLL := Lib.hid (HK.out.2.2.1.below hb1 (by omega))
        have HT := Lib.hid (HK.out.2.2.2.belowQ hb1)
        clear hR' hb' hb1 HK HA
        go_roundw
        case rel => exact ⟨k + 1, by omega, by go_num, by rw [HS.out, List.map_append]; exact HR.out, by rw [HS.out]; exact HQ2.out, fun _ => by rw [HS.out]; exact he1, fun h => by omega, HALL.out, HH.out, HLL.out, HT.out⟩
        case measure => simp [intOf]; omega
      case false =>
        have HO := Lib.hid (show OK = false by
          rw [HOK.out]
          have : ((List.range n).all fun i => oneOk whole (entsK whole q i).2) = false := by
            rw [Bool.eq_false_iff]
            intro h
            have := List.all_eq_true.1 h k (by simp; exact hlt)
            rw [hok] at this
            cases this
          simp [this])
        go_wp2_with fail
        refine KT.out.mono ?_
        rintro e w2 ⟨x', rfl, hx, hT2⟩
        rw [hok]
        have HT := Lib.hid ((hT.then_ hT2).then_ (Touch.of_below ((Below.refl w2.heap.size w2).alloc (Nat.le_refl _) (.cells x'.vals.toArray 56)) _))
        obtain ⟨w3, hw3⟩ : ∃ V, V = w2.alloc (.cells x'.vals.toArray 56) := ⟨_, rfl⟩
        rw [← hw3] at HT
        have HW3 := Lib.hid hw3
        clear hx hT2 hRow hH hL hT KT hw3
        go_wp2_with (first
          | (refine wpList_store_new (by rfl) 56 _ _ (by rfl) x'.vals entryZ8.vals w2 56 rfl (by rfl) (by rfl) (by rfl) (by kernel_rfl) (Entry.one _) ?_; rw [← HW3.out])
          | fail)
        go_ret2
        rw [HO.out]
        refine ⟨.slice none 0 0, rfl, fun h => ?_, fun _ => rfl, HT.out⟩
        exact absurd h (by simp)
    · obtain rfl : k = n := by omega
      have HR := Lib.hid hRow
      have HQ2 := Lib.hid hR
      have HT := Lib.hid hT
      have HV := Lib.hid hv0
      have HE := Lib.hid he
      have HALL := Lib.hid hall
      obtain ⟨Q, hQd⟩ : ∃ Q, Q = (entsK whole q k).2 := ⟨_, rfl⟩
      rw [← hQd] at HQ2 HE
      clear hRow hH hL hT hv0 he hall
      go_wp2_with fail
      refine (rErr_any g Q _ HQ2.out).mono ?_
      rintro e w2 ⟨rfl, rfl⟩
      by_cases hQe : Q.e = 0
      · have HO := Lib.hid (show OK = true by
          have hq0 : q.e = 0 := by
            rcases Nat.eq_zero_or_pos k with h | h
            · rw [h] at hQd
              rw [← hQe, hQd]
              rfl
            · rcases Decidable.em (q.e = 0) with h2 | h2
              · exact h2
              · have := HQE.out h2
                omega
          have hal : ((List.range k).all fun i => oneOk whole (entsK whole q i).2) = true := List.all_eq_true.2 fun j hj => HALL.out j (by simpa using hj)
          rw [HOK.out, hal]
          simp [hq0]
          omega)
        rw [hQe]
        go_wp2
        go_ret2
        rw [HO.out, ← hQd]
        refine ⟨_, rfl, fun _ => ⟨HR.out, HQ2.out⟩, fun h => ?_, HT.out⟩
        exact absurd h (by simp)
      · have hk0 : k = 0 := by
          rcases Nat.eq_zero_or_pos k with h | h
          · exact h
          · exact absurd (HE.out h) hQe
        have HO := Lib.hid (show OK = false by
          have hq0 : ¬ q.e = 0 := by
            intro h
            rw [hk0] at hQd
            exact hQe (by rw [hQd]; exact h)
          rw [HOK.out]
          simp [hq0])
        have hv := HV.out hk0
        subst hv
        have hQe2 : (Q.e == 0) = false := by simpa using hQe
        go_wp2
        go_ret2
        rw [HO.out]
        refine ⟨.slice none 0 0, ?_, fun h => ?_, fun _ => rfl, HT.out⟩
        · simp
          intro h
          exact hQe (by rw [hQd, hk0]; exact h)
        · exact absurd h (by simp)
end Go.Proofs.YtapcjojlkeaadaaGreatDoor
