/-
  Layer 33, walks: a client's last record is written, its calls are thrown away, its places are written: what it is behind that. No condition.
-/
import Derived.Test.YtfjflkmhhbhceaaGreatDoorW34
import Derived.Test.YtfjflkmhhbhceaaGreatDoorW33
import Derived.Test.YtfjflkmhhbhceaaGreatDoorW29
import Derived.Test.YtfjflkmhhbhceaaGreatDoorW30
import Derived.Test.YtfjflkmhhbhceaaGreatDoorW04
namespace Go.Proofs.YtfjflkmhhbhceaaGreatDoor
open Go.RowKit
theorem lastSet_snoc (l : List RecdD) (r : RecdD) (step : Int) (d : RepD) : lastSet (l ++ [r]) step d = l ++ [{ r with fin := step, rep := d }] := by simp [lastSet]
section
variable {F : Nat → Prop} {w : World} {g : Nat} {c : ClD} {z : Clnt} {l : List Recd}
/-- where the last record lies -/
theorem ClAt.last (hC : ClAt F w g c z l) (hne : c.recs ≠ []) : ∃ b m, z.ra = some ⟨b, 0, none⟩ ∧ z.rn = m + 1 ∧ c.recs.length = m + 1 ∧ F b ∧ b ≠ g ∧ thereB w b (m * 88 + 5) 1 = true ∧ thereB w b (m * 88 + 30) 58 = true ∧ (∃ v, w.cell? ⟨b, m * 88 + 5, none⟩ = some v) ∧ w.frozen? ⟨b, m * 88 + 5, none⟩ = false ∧ Touch (TyIn w [65]) w w ∧ TyIn w [65] b := by
  have hrow := hC.rcs.row
  have hn : z.rn = l.length := by have := hrow.lenOf; rwa [List.length_map] at this
  obtain ⟨m, hm⟩ : ∃ m, l.length = m + 1 := ⟨l.length - 1, by
    have h1 : 0 < c.recs.length := by cases h : c.recs with
      | nil => exact absurd h hne
      | cons _ _ => simp
    have := hC.rcs.len
    omega⟩
  rcases hrow.2.2 with ⟨h1, h2⟩ | ⟨b, cap, cur, h1, h2, h3, h4, h5, h6, h7⟩
  · simp only [List.length_map] at h2
    omega
  · injection h1 with h1 h1n h1c
    simp only [List.length_map] at h4 h1n
    have ht : w.heap[b]? = some (.cells cur 65 (0, 0)) := h3
    have hsz : (m + 1) * 88 ≤ cur.size := by
      have : (m + 1) * 88 ≤ cap * 88 := Nat.mul_le_mul_right _ (by omega)
      omega
    have hin : m * 88 + 88 ≤ cur.size := by omega
    have htB : ∀ o k, o + k ≤ cur.size → thereB w b o k = true := fun o k hk => by
      unfold thereB
      rw [ht]
      simpa using hk
    have hty : TyIn w [65] b := ⟨_, _, _, ht, by decide⟩
    refine ⟨b, m, h1, by omega, by rw [← hC.rcs.len]; exact hm, hC.rcs.own b (by rw [h1]; rfl), fun e => ?_, htB _ _ (by omega), htB _ _ (by omega), ?_, ?_, Touch.refl _ _, hty⟩
    · subst e
      have h8 := hC.blk
      unfold Blk at h8
      rw [ht] at h8
      injection h8 with h8
      injection h8 with _ h8
      exact absurd h8 (by decide)
    · have := (thereB_there (htB (m * 88 + 5) 1 (by omega)) 0 (by omega)).1
      exact Option.isSome_iff_exists.1 this
    · exact (thereB_there (htB (m * 88 + 5) 1 (by omega)) 0 (by omega)).2
/-- the last record is written -/
theorem ClAt.lastPut (hC : ClAt F w g c z l) {b m : Nat} (hb : z.ra = some ⟨b, 0, none⟩) (hm : c.recs.length = m + 1) {n : Nat} (r : Reply) (d : RepD) (hr : RepAt w (fun k => n ≤ k) r d) (step : Int) {W : World} (hW : W = putsW (w.setCell ⟨b, m * 88 + 5, none⟩ (.int .i64 step)) b (m * 88 + 30) r.vals) :
    (∃ l', ClAt (fun k => F k ∨ (n ≤ k ∧ k < w.heap.size)) W g { c with recs := lastSet c.recs step d } z l') ∧ Touch (fun k => k = b) w W := by
  obtain ⟨b', m', q1, q2, q3, q4, q5, q6, q7, -, -, -, q8⟩ := hC.last (by intro e; rw [e] at hm; cases hm)
  rw [hb] at q1
  injection q1 with q1
  injection q1 with q1 _ _
  subst q1
  obtain rfl : m' = m := by omega
  have hlm : l.length = m' + 1 := by rw [hC.rcs.len]; exact hm
  obtain ⟨l0, y, rfl⟩ : ∃ l0 y, l = l0 ++ [y] := by
    rcases List.eq_nil_or_concat l with rfl | ⟨l0, y, h⟩
    · cases hlm
    · exact ⟨l0, y, by rw [h, List.concat_eq_append]⟩
  obtain ⟨rs, rd, hrs⟩ : ∃ rs rd, c.recs = rs ++ [rd] := by
    rcases List.eq_nil_or_concat c.recs with h | ⟨l0, y, h⟩
    · rw [h] at hm; cases hm
    · exact ⟨l0, y, by rw [h, List.concat_eq_append]⟩
  have hl0 : l0.length = m' := by simpa using hlm
  have hr0 : rs.length = m' := by rw [hrs] at hm; simpa using hm
  have hrow := hC.rcs.row
  rw [hb] at hrow
  rw [q2] at hrow
  have hT1 : Touch (fun k => k = b) w (w.setCell ⟨b, m' * 88 + 5, none⟩ (.int .i64 step)) := (Touch.refl (fun k => k = b) w).setCell (p := ⟨b, m' * 88 + 5, none⟩) (.inl rfl) _
  have hT : Touch (fun k => k = b) w W := by rw [hW]; exact hT1.puts (.inl rfl)
  have hty : Touch (TyIn w [65]) w W := hT.mono fun k _ hk => by subst hk; exact q8
  have e1 : ∀ x : Recd, x.vals = x.vals.take 5 ++ ([.int .i64 x.end_] ++ x.vals.drop 6) := fun x => rfl
  have e2 : ∀ x : Recd, x.vals = x.vals.take 30 ++ (x.reply.vals ++ []) := fun x => by rw [List.append_nil]; rfl
  have h1 := hrow
  rw [List.map_append, List.map_cons, List.map_nil, e1 y] at h1
  have h2 := RowS.putMid (r := [.int .i64 step]) h1 rfl (by rw [← e1 y]; simp [hl0])
  rw [List.length_map, hl0, show (y.vals.take 5).length = 5 from rfl] at h2
  rw [show y.vals.take 5 ++ ([Value.int .i64 step] ++ y.vals.drop 6) = ({ y with end_ := step } : Recd).vals from rfl, e2] at h2
  have h3 := RowS.putMid (r := r.vals) h2 (by rw [Reply.len, Reply.len]) (by simp [hl0])
  rw [List.length_map, hl0, show (({ y with end_ := step } : Recd).vals.take 30).length = 30 from rfl, ← putsW_eq] at h3
  rw [show ({ y with end_ := step } : Recd).vals.take 30 ++ (r.vals ++ []) = ({ y with end_ := step, reply := r } : Recd).vals by rw [List.append_nil]; rfl] at h3
  have h4 : RowS W 0 65 88 (.slice z.ra z.rn z.rc) ((l0 ++ [({ y with end_ := step, reply := r } : Recd)]).map Recd.vals) := by
    rw [hW, hb, q2, List.map_append, List.map_cons, List.map_nil]
    exact h3
  refine ⟨⟨l0 ++ [{ y with end_ := step, reply := r }], ?_⟩, hT⟩
  have i := hC.is
  have hsz : w.heap.size ≤ W.heap.size := hT.size
  refine ⟨hC.blk.touch hT (Ne.symm q5), ⟨i.id, i.self, i.server, i.ps, i.now, i.busy, i.sent, i.due, i.made⟩, (hC.pts.tou (hty.less (by decide))).mono fun k hk => .inl hk, ⟨h4, fun k hk => .inl (hC.rcs.own k hk), ?_, ?_⟩, .inl hC.fg, ?_⟩
  · show _ = (lastSet c.recs step d).length
    rw [lastSet_length, hm, List.length_append, hl0]
    rfl
  · intro j h5 h6
    have hj : ∀ (h : j < (lastSet c.recs step d).length) (h' : j < (rs ++ [({ rd with fin := step, rep := d } : RecdD)]).length), (lastSet c.recs step d)[j] = (rs ++ [({ rd with fin := step, rep := d } : RecdD)])[j] := by
      intro h h'
      congr 1
      rw [hrs, lastSet_snoc]
    have h6' : j < (rs ++ [({ rd with fin := step, rep := d } : RecdD)]).length := by
      have h7 : j < (lastSet c.recs step d).length := h6
      rw [hrs, lastSet_snoc] at h7
      exact h7
    show RecIs W _ (l0 ++ [({ y with end_ := step, reply := r } : Recd)])[j] (lastSet c.recs step d)[j]
    rw [hj h6 h6']
    rw [List.length_append, hl0, List.length_singleton] at h5
    rcases Nat.lt_or_ge j m' with hlt | hge
    · rw [List.getElem_append_left (by omega), List.getElem_append_left (by omega)]
      have e := hC.rcs.each j (by rw [hlm]; omega) (by omega)
      have e3 : c.recs[j]'(by omega) = rs[j]'(by omega) := by
        have : ∀ (h : j < c.recs.length) (h' : j < (rs ++ [rd]).length), c.recs[j] = (rs ++ [rd])[j] := by intro h h'; congr 1
        rw [this (by omega) (by simp; omega), List.getElem_append_left]
      rw [List.getElem_append_left (by omega), e3] at e
      exact (e.tou (hty.less (by decide))).mono fun k hk => .inl hk
    · have hjm : j = m' := by omega
      subst hjm
      rw [List.getElem_append_right (by omega), List.getElem_append_right (by omega), List.getElem_singleton, List.getElem_singleton]
      have e := hC.rcs.each l0.length (by rw [hlm, hl0]; omega) (by omega)
      have e3 : c.recs[l0.length]'(by omega) = rd := by
        have : ∀ (h : l0.length < c.recs.length) (h' : l0.length < (rs ++ [rd]).length), c.recs[l0.length] = (rs ++ [rd])[l0.length] := by intro h h'; congr 1
        rw [this (by omega) (by simp; omega), List.getElem_append_right (by omega), List.getElem_singleton]
      rw [List.getElem_append_right (Nat.le_refl _), List.getElem_singleton, e3] at e
      exact ⟨e.cred, e.beg, rfl, e.call, ⟨(hr.tou (hty.less (by decide))).bare, (hr.tou (hty.less (by decide))).es, (hr.tou (hty.less (by decide))).us, fun k hk => .inr ⟨hr.ie k hk, (hr.es.lt k hk).2⟩, fun k hk => .inr ⟨hr.iu k hk, (hr.us.lt k hk).2⟩, hr.le, hr.lu⟩⟩
  · intro k hk
    rcases hk with hk | hk
    · have := hC.lt k hk; omega
    · omega
theorem zeroPart33 : ∀ w, (zeroValue 91).run Tryz.prog w = .ok (.agg partZ33.vals.toArray) w := by
  obtain ⟨i0, hi, hz, hsize, hby⟩ := info_parts infoPart33
  exact fun w => by simp [zeroValue, typeInfo, hi, hz, go_sem]
/-- 'clear(c.parts)' -/
theorem ClAt.cleared (hC : ClAt F w g c z l) : ∃ w1, (∀ ty, (Builtin.clear_ #[89] ty #[.slice z.ta z.tn z.tc]).run Tryz.prog w = .ok (.tuple #[]) w1) ∧ Touch (TyIn w [91]) w w1 ∧ Touch F w w1 := by
  cases hta : z.ta with
  | none =>
    refine ⟨w, fun ty => ?_, Touch.refl _ _, Touch.refl _ _⟩
    simp [Builtin.clear_, run_underlying Tryz.underlying89]
  | some p =>
    obtain ⟨hF, C, hCb⟩ := hC.pts.own p hta
    rcases Nat.eq_zero_or_pos z.tn with h0 | h0
    · refine ⟨w, fun ty => ?_, Touch.refl _ _, Touch.refl _ _⟩
      rw [h0]
      simp [Builtin.clear_, run_underlying Tryz.underlying89]
    · have hlen := hC.pts.len
      obtain ⟨q, hq⟩ : ∃ q, (c.parts.map CPart.vals)[0]? = some q := by
        cases hp : c.parts with
        | nil => rw [hp] at hlen; simp at hlen; omega
        | cons a b => exact ⟨_, rfl⟩
      obtain ⟨b, off, h1, -⟩ := hC.pts.row 0 q hq
      rw [hta] at h1
      injection h1 with h1
      subst h1
      simp only at hF hCb
      have hcell : ∀ j, j < z.tn * 29 → (w.cell? ⟨b, off + j, none⟩).isSome = true := fun j hj => by
        have hd := Nat.div_add_mod j 29
        have hm := Nat.mod_lt j (show 0 < 29 by decide)
        have hi : j / 29 < c.parts.length := by rw [← hlen]; exact Nat.div_lt_of_lt_mul (by omega)
        obtain ⟨b2, off2, e1, e2, e3⟩ := hC.pts.row (j / 29) (c.parts[j / 29].vals) (by rw [List.getElem?_map, List.getElem?_eq_getElem hi]; rfl)
        rw [hta] at e1
        injection e1 with e1
        injection e1 with e4 e5 _
        subst e4 e5
        have e6 := e3 (j % 29) (c.parts[j / 29].vals[j % 29]'(by rw [CPart.len]; exact hm)) (List.getElem?_eq_getElem _)
        rw [show off + j = off + j / 29 * 29 + j % 29 by omega, e6]
        rfl
      have hfr : ∀ j, w.frozen? ⟨b, off + j, none⟩ = false := fun j => by simp [World.frozen?, hCb]
      have hT : ∀ zs, Touch (fun k => k = b) w (w.setCells b off zs) := fun zs => Touch.setCells (F := fun k => k = b) (g := b) (.inl rfl) zs off w (Touch.refl _ _)
      refine ⟨_, fun ty => run_clear_rows (P := Tryz.prog) w 89 91 ty _ Tryz.underlying89 zeroPart33 (sz := 29) rfl (by decide) (fun u hu => CPart.one partZ33 u hu) b off z.tn z.tc h0 hcell (fun j _ => hfr j), (hT _).mono fun k _ hk => ?_, (hT _).mono fun k _ hk => ?_⟩
      · subst hk; exact ⟨C, _, _, hCb, by decide⟩
      · subst hk; exact hF
/-- the calls that are to be made are thrown away -/
theorem ClAt.dropped (hC : ClAt F w g c z l) {w1 W : World} (h1 : Touch (TyIn w [91]) w w1) (hW : W = w1.setCell ⟨g, 19, none⟩ (.slice none 0 0)) :
    ClAt F W g { c with parts := [] } { z with ta := none, tn := 0, tc := 0 } l := by
  have hng : ¬ TyIn w [91] g := fun h => absurd (ty_one hC.blk h) (by decide)
  have hb1 := hC.blk.touch h1 hng
  have hb2 := hb1.set_ 19 (.slice none 0 0)
  rw [clnt_set19, ← hW] at hb2
  have h2 : Touch (TyIn w [93, 91]) w W := by
    rw [hW]
    exact (h1.less (by decide)).setCell (p := ⟨g, 19, none⟩) (.inl (tyIn_of hC.blk (by decide))) _
  have i := hC.is
  exact ⟨hb2, ⟨i.id, i.self, i.server, i.ps, i.now, i.busy, i.sent, i.due, i.made⟩, PartsAt.none_ _ _ rfl, hC.rcs.tou h2, hC.fg, fun k hk => Nat.lt_of_lt_of_le (hC.lt k hk) h2.size⟩
theorem LaidF.more {W : World} (h : LaidF F w) (ht : Touch F w W) {n : Nat} (hn : w.heap.size ≤ n) : LaidF (fun k => F k ∨ (n ≤ k ∧ k < W.heap.size)) W := by
  obtain ⟨w0, h1, h2, h3⟩ := h
  exact ⟨w0, h1, h2.trans (ht.below (fun k _ hk => h3 k hk) h2.size), fun k hk => hk.elim (h3 k) fun h4 => Nat.le_trans h2.size (Nat.le_trans hn h4.1)⟩
end
end Go.Proofs.YtfjflkmhhbhceaaGreatDoor

/-
  Layer 33, walks: what a client's questions come to (printed by wip/tools/genasked33.py). No condition.
-/
namespace Go.Proofs.YtfjflkmhhbhceaaGreatDoor
open Go.RowKit
attribute [local go_sem ↓] Go.wp_at_zero Go.wp_at_succ
attribute [local go_sem] rowAt_ptr rowOf_drew rowOf_drewN rowOf_alloc_past rowOf_new
attribute [local go_sem ↓] st33Call ld33Call ld33Ask

attribute [local go_sem] thereB_drew thereB_drewN thereB_new thereB_past putsW_drew putsW_new putsW_past rowOf_far rowOf_putsFar cell_putsFar putsW_size ptrAt blkAt offAt allV33 oneV33

attribute [local go_sem low] rowV33_agg

attribute [local go_sem] putsW_call Call.len rowV33_call

attribute [local go_sem] Ask.at0 Ask.lat0 Ask.at1 Ask.lat1 Ask.at2 Ask.lat2 Ask.at3 Ask.lat3 Ask.at4 Ask.lat4 Ask.at5 Ask.lat5 Ask.at6 Ask.lat6 Ask.at7 Ask.lat7 Ask.at8 Ask.lat8 Ask.at9 Ask.lat9 Ask.at10 Ask.lat10 Ask.at11 Ask.lat11 Ask.at12 Ask.lat12 Ask.at13 Ask.lat13 Ask.at14 Ask.lat14 Ask.at15 Ask.lat15 Ask.at16 Ask.lat16 Ask.at17 Ask.lat17 Ask.at18 Ask.lat18 Ask.at19 Ask.lat19 Ask.at20 Ask.lat20 Ask.at21 Ask.lat21 Ask.at22 Ask.lat22 Ask.at23 Ask.lat23 Ask.at24 Ask.lat24 Ask.at25 Ask.lat25 Ask.at26 Ask.lat26 Ask.at27 Ask.lat27 Ask.at28 Ask.lat28 Ask.at29 Ask.lat29 Ask.sub0_30 Ask.lsub0_30 Ask.sub6_24 Ask.lsub6_24 Ask.sub15_10 Ask.lsub15_10 Ask.sub15_2 Ask.lsub15_2 Ask.sub17_2 Ask.lsub17_2 Ask.sub19_2 Ask.lsub19_2 Ask.sub21_2 Ask.lsub21_2 Ask.sub23_2 Ask.lsub23_2 Ask.sub25_2 Ask.lsub25_2 Ask.len Call.at0 Call.lat0 Call.at1 Call.lat1 Call.at2 Call.lat2 Call.at3 Call.lat3 Call.at4 Call.lat4 Call.at5 Call.lat5 Call.at6 Call.lat6 Call.at7 Call.lat7 Call.at8 Call.lat8 Call.at9 Call.lat9 Call.at10 Call.lat10 Call.at11 Call.lat11 Call.at12 Call.lat12 Call.at13 Call.lat13 Call.at14 Call.lat14 Call.at15 Call.lat15 Call.at16 Call.lat16 Call.at17 Call.lat17 Call.at18 Call.lat18 Call.at19 Call.lat19 Call.at20 Call.lat20 Call.at21 Call.lat21 Call.at22 Call.lat22 Call.at23 Call.lat23 Call.sub0_24 Call.lsub0_24 Call.sub9_10 Call.lsub9_10 Call.sub9_2 Call.lsub9_2 Call.sub11_2 Call.lsub11_2 Call.sub13_2 Call.lsub13_2 Call.sub15_2 Call.lsub15_2 Call.sub17_2 Call.lsub17_2 Call.sub19_2 Call.lsub19_2 Call.len

/-- what 'asked' gives -/
def AskedP (a : Ask) (w : World) (e : Ending) (w' : World) : Prop :=
  ∃ A c, e = .returned (.tuple #[.agg (askedC a).1.vals.toArray, .slice A (askedC a).2.1.length c, .bool (askedC a).2.2]) ∧ At w' 1 A ((askedC a).2.1.map int1) ∧ Below w.heap.size w w'
theorem asked_end {a : Ask} {w w2 : World} {b : Nat} {r : Call} {is : List Int} {is' : List Value} (hR : Blk w2 b 36 callZ.vals) (hB : Below w.heap.size w w2) (hb : w.heap.size ≤ b) (hq : askedC a = (r, is, true)) (hi : (is.map int1).flatten = is') :
    ((((putsW w2 b 0 r.vals).alloc (.cells is'.toArray 3)).drew).rangeAt b 0 r.vals) ∧ AskedP a w (.returned (.tuple #[.agg r.vals.toArray, .slice (some ⟨w2.heap.size, 0, none⟩) is.length is.length, .bool true])) (((putsW w2 b 0 r.vals).alloc (.cells is'.toArray 3)).drew) := by
  have h1 : Blk (putsW w2 b 0 r.vals) b 36 r.vals := by
    rw [putsW_eq]; exact hR.whole (by rw [Call.len, Call.len])
  have h2 : Below w.heap.size w (putsW w2 b 0 r.vals) := by
    rw [putsW_eq]; exact Below.setWhole hB hb _
  have h3 := (h1.alloc (.cells is'.toArray 3)).drew
  subst hi
  refine ⟨h3.range, some ⟨w2.heap.size, 0, none⟩, is.length, ?_, ?_, ((h2.alloc h2.size _).drew)⟩
  · rw [hq]
  · rw [hq]
    exact (At.fresh (putsW w2 b 0 r.vals) 3 1 w2.heap.size (is.map int1) (fun q hq => by obtain ⟨_, _, rfl⟩ := List.mem_map.1 hq; rfl) (putsW_size _ _ _ _).symm).drew
set_option maxRecDepth 20000 in
set_option maxHeartbeats 1600000 in
theorem asked33_1 (a : Ask) (w : World) (hk : a.kind = 1) : Calls Tryz.prog 33 #[.agg a.vals.toArray] w (AskedP a w) := by
  have HQ := Lib.hid (show askedC a = ({ callZ with proc := 3, name := a.call.name }, [a.dir, a.var], true) from if_pos hk)
  obtain ⟨bA, bR, hB, hs⟩ := chain2_blks w a.vals callZ.vals 38 36
  obtain ⟨w1, hw1⟩ : ∃ V, V = (w.alloc (.cells a.vals.toArray 38)).alloc (.cells callZ.vals.toArray 36) := ⟨_, rfl⟩
  rw [← hw1] at bA bR hB hs
  have HW := Lib.hid hw1
  clear hw1
  have c0 : w1.cell? ⟨w.heap.size, 0, none⟩ = some (.int .i64 1) := by rw [bA.cell 0]; show some (Value.int .i64 a.kind) = _; rw [hk]
  have c1 : w1.cell? ⟨w.heap.size, 1, none⟩ = some (.int .i64 a.var) := bA.cell 1
  have c2 : w1.cell? ⟨w.heap.size, 2, none⟩ = some (.int .i64 a.dir) := bA.cell 2
  have c3 : w1.cell? ⟨w.heap.size, 3, none⟩ = some (.int .i64 a.to_) := bA.cell 3
  have rC : rowOf w1 w.heap.size 6 24 = some a.call.vals.toArray := bA.row 6 24 (by rw [Ask.len]; omega)
  have hl1 := bA.lt
  go_enter Tryz.func33, Tryz.ntmps33
  go_upto_region 1 with fail
  change Code.wp _ _ _ _ ((w.alloc (.cells a.vals.toArray 38)).alloc (.cells callZ.vals.toArray 36))
  rw [← HW.out]
  go_upto_region 3 with fail
  change Code.wp _ _ _ _ (w1.alloc (.cells ({ a.call with fh := [], fh2 := [] } : Call).vals.toArray 36))
  have bX := Blk.new w1 36 ({ a.call with fh := [], fh2 := [] } : Call).vals
  have hB2 : Below w1.heap.size w1 (w1.alloc (.cells ({ a.call with fh := [], fh2 := [] } : Call).vals.toArray 36)) := (Below.refl _ _).alloc (Nat.le_refl _) _
  generalize w1.alloc (.cells ({ a.call with fh := [], fh2 := [] } : Call).vals.toArray 36) = w2 at *
  rw [hs] at bX
  replace bR := bR.stays hB2
  have hlt2 := bX.lt
  have hltR : w.heap.size + 1 < w2.heap.size := by omega
  have hlt0 : w.heap.size < w2.heap.size := by omega
  have hn0 : w.heap.size ≠ w.heap.size + 1 := by omega
  have hn2 : w.heap.size + 1 + 1 ≠ w.heap.size + 1 := by omega
  have d2 : w2.cell? ⟨w.heap.size + 1 + 1, 2, none⟩ = some (.string (bs a.call.name)) := bX.cell 2
  have d5 : w2.cell? ⟨w.heap.size + 1 + 1, 5, none⟩ = some (.int .i64 a.call.offset) := bX.cell 5
  have d6 : w2.cell? ⟨w.heap.size + 1 + 1, 6, none⟩ = some (.int .i64 a.call.count) := bX.cell 6
  have d8 : w2.cell? ⟨w.heap.size + 1 + 1, 8, none⟩ = some (.string (bs a.call.data)) := bX.cell 8
  have rX : rowOf w2 (w.heap.size + 1 + 1) 0 24 = some ({ a.call with fh := [], fh2 := [] } : Call).vals.toArray := bX.row 0 24 (by rw [Call.len]; omega)
  replace c0 := (hB2.cell (p := ⟨w.heap.size, 0, none⟩) hl1).trans c0
  replace c1 := (hB2.cell (p := ⟨w.heap.size, 1, none⟩) hl1).trans c1
  replace c2 := (hB2.cell (p := ⟨w.heap.size, 2, none⟩) hl1).trans c2
  replace c3 := (hB2.cell (p := ⟨w.heap.size, 3, none⟩) hl1).trans c3
  have tR := bR.thereB 0 24 (by rw [Call.len]; omega)
  have HB := Lib.hid (below_then hB hB2)
  have HR := Lib.hid bR
  clear rC hs hB hB2 bA bX bR hl1 HW
  go_wp2
  go_region
  go_wp2
  have HE := asked_end (is' := [.int .i64 a.dir, .int .i64 a.var]) HR.out HB.out (by omega) HQ.out rfl
  refine ret_cells3 (w.heap.size + 1) 0 ({ callZ with proc := 3, name := a.call.name } : Call).vals _ _ Tryz.results33 Tryz.underlying36 rfl (by kernel_rfl) rfl rfl rfl HE.1 rfl ?_
  exact HE.2
set_option maxRecDepth 20000 in
set_option maxHeartbeats 1600000 in
theorem asked33_2 (a : Ask) (w : World) (hk : a.kind = 2) : Calls Tryz.prog 33 #[.agg a.vals.toArray] w (AskedP a w) := by
  have HQ := Lib.hid (show askedC a = ({ callZ with proc := 6, offset := a.call.offset, count := a.call.count }, [a.var], true) from (if_neg (by omega)).trans (if_pos hk))
  obtain ⟨bA, bR, hB, hs⟩ := chain2_blks w a.vals callZ.vals 38 36
  obtain ⟨w1, hw1⟩ : ∃ V, V = (w.alloc (.cells a.vals.toArray 38)).alloc (.cells callZ.vals.toArray 36) := ⟨_, rfl⟩
  rw [← hw1] at bA bR hB hs
  have HW := Lib.hid hw1
  clear hw1
  have c0 : w1.cell? ⟨w.heap.size, 0, none⟩ = some (.int .i64 2) := by rw [bA.cell 0]; show some (Value.int .i64 a.kind) = _; rw [hk]
  have c1 : w1.cell? ⟨w.heap.size, 1, none⟩ = some (.int .i64 a.var) := bA.cell 1
  have c2 : w1.cell? ⟨w.heap.size, 2, none⟩ = some (.int .i64 a.dir) := bA.cell 2
  have c3 : w1.cell? ⟨w.heap.size, 3, none⟩ = some (.int .i64 a.to_) := bA.cell 3
  have rC : rowOf w1 w.heap.size 6 24 = some a.call.vals.toArray := bA.row 6 24 (by rw [Ask.len]; omega)
  have hl1 := bA.lt
  go_enter Tryz.func33, Tryz.ntmps33
  go_upto_region 1 with fail
  change Code.wp _ _ _ _ ((w.alloc (.cells a.vals.toArray 38)).alloc (.cells callZ.vals.toArray 36))
  rw [← HW.out]
  go_upto_region 3 with fail
  change Code.wp _ _ _ _ (w1.alloc (.cells ({ a.call with fh := [], fh2 := [] } : Call).vals.toArray 36))
  have bX := Blk.new w1 36 ({ a.call with fh := [], fh2 := [] } : Call).vals
  have hB2 : Below w1.heap.size w1 (w1.alloc (.cells ({ a.call with fh := [], fh2 := [] } : Call).vals.toArray 36)) := (Below.refl _ _).alloc (Nat.le_refl _) _
  generalize w1.alloc (.cells ({ a.call with fh := [], fh2 := [] } : Call).vals.toArray 36) = w2 at *
  rw [hs] at bX
  replace bR := bR.stays hB2
  have hlt2 := bX.lt
  have hltR : w.heap.size + 1 < w2.heap.size := by omega
  have hlt0 : w.heap.size < w2.heap.size := by omega
  have hn0 : w.heap.size ≠ w.heap.size + 1 := by omega
  have hn2 : w.heap.size + 1 + 1 ≠ w.heap.size + 1 := by omega
  have d2 : w2.cell? ⟨w.heap.size + 1 + 1, 2, none⟩ = some (.string (bs a.call.name)) := bX.cell 2
  have d5 : w2.cell? ⟨w.heap.size + 1 + 1, 5, none⟩ = some (.int .i64 a.call.offset) := bX.cell 5
  have d6 : w2.cell? ⟨w.heap.size + 1 + 1, 6, none⟩ = some (.int .i64 a.call.count) := bX.cell 6
  have d8 : w2.cell? ⟨w.heap.size + 1 + 1, 8, none⟩ = some (.string (bs a.call.data)) := bX.cell 8
  have rX : rowOf w2 (w.heap.size + 1 + 1) 0 24 = some ({ a.call with fh := [], fh2 := [] } : Call).vals.toArray := bX.row 0 24 (by rw [Call.len]; omega)
  replace c0 := (hB2.cell (p := ⟨w.heap.size, 0, none⟩) hl1).trans c0
  replace c1 := (hB2.cell (p := ⟨w.heap.size, 1, none⟩) hl1).trans c1
  replace c2 := (hB2.cell (p := ⟨w.heap.size, 2, none⟩) hl1).trans c2
  replace c3 := (hB2.cell (p := ⟨w.heap.size, 3, none⟩) hl1).trans c3
  have tR := bR.thereB 0 24 (by rw [Call.len]; omega)
  have HB := Lib.hid (below_then hB hB2)
  have HR := Lib.hid bR
  clear rC hs hB hB2 bA bX bR hl1 HW
  go_wp2
  go_region
  go_wp2
  have HE := asked_end (is' := [.int .i64 a.var]) HR.out HB.out (by omega) HQ.out rfl
  refine ret_cells3 (w.heap.size + 1) 0 ({ callZ with proc := 6, offset := a.call.offset, count := a.call.count } : Call).vals _ _ Tryz.results33 Tryz.underlying36 rfl (by kernel_rfl) rfl rfl rfl HE.1 rfl ?_
  exact HE.2
set_option maxRecDepth 20000 in
set_option maxHeartbeats 1600000 in
theorem asked33_3 (a : Ask) (w : World) (hk : a.kind = 3) : Calls Tryz.prog 33 #[.agg a.vals.toArray] w (AskedP a w) := by
  have HQ := Lib.hid (show askedC a = ({ callZ with proc := 7, offset := a.call.offset, data := a.call.data, how := 2 }, [a.var], true) from (if_neg (by omega)).trans ((if_neg (by omega)).trans (if_pos hk)))
  obtain ⟨bA, bR, hB, hs⟩ := chain2_blks w a.vals callZ.vals 38 36
  obtain ⟨w1, hw1⟩ : ∃ V, V = (w.alloc (.cells a.vals.toArray 38)).alloc (.cells callZ.vals.toArray 36) := ⟨_, rfl⟩
  rw [← hw1] at bA bR hB hs
  have HW := Lib.hid hw1
  clear hw1
  have c0 : w1.cell? ⟨w.heap.size, 0, none⟩ = some (.int .i64 3) := by rw [bA.cell 0]; show some (Value.int .i64 a.kind) = _; rw [hk]
  have c1 : w1.cell? ⟨w.heap.size, 1, none⟩ = some (.int .i64 a.var) := bA.cell 1
  have c2 : w1.cell? ⟨w.heap.size, 2, none⟩ = some (.int .i64 a.dir) := bA.cell 2
  have c3 : w1.cell? ⟨w.heap.size, 3, none⟩ = some (.int .i64 a.to_) := bA.cell 3
  have rC : rowOf w1 w.heap.size 6 24 = some a.call.vals.toArray := bA.row 6 24 (by rw [Ask.len]; omega)
  have hl1 := bA.lt
  go_enter Tryz.func33, Tryz.ntmps33
  go_upto_region 1 with fail
  change Code.wp _ _ _ _ ((w.alloc (.cells a.vals.toArray 38)).alloc (.cells callZ.vals.toArray 36))
  rw [← HW.out]
  go_upto_region 3 with fail
  change Code.wp _ _ _ _ (w1.alloc (.cells ({ a.call with fh := [], fh2 := [] } : Call).vals.toArray 36))
  have bX := Blk.new w1 36 ({ a.call with fh := [], fh2 := [] } : Call).vals
  have hB2 : Below w1.heap.size w1 (w1.alloc (.cells ({ a.call with fh := [], fh2 := [] } : Call).vals.toArray 36)) := (Below.refl _ _).alloc (Nat.le_refl _) _
  generalize w1.alloc (.cells ({ a.call with fh := [], fh2 := [] } : Call).vals.toArray 36) = w2 at *
  rw [hs] at bX
  replace bR := bR.stays hB2
  have hlt2 := bX.lt
  have hltR : w.heap.size + 1 < w2.heap.size := by omega
  have hlt0 : w.heap.size < w2.heap.size := by omega
  have hn0 : w.heap.size ≠ w.heap.size + 1 := by omega
  have hn2 : w.heap.size + 1 + 1 ≠ w.heap.size + 1 := by omega
  have d2 : w2.cell? ⟨w.heap.size + 1 + 1, 2, none⟩ = some (.string (bs a.call.name)) := bX.cell 2
  have d5 : w2.cell? ⟨w.heap.size + 1 + 1, 5, none⟩ = some (.int .i64 a.call.offset) := bX.cell 5
  have d6 : w2.cell? ⟨w.heap.size + 1 + 1, 6, none⟩ = some (.int .i64 a.call.count) := bX.cell 6
  have d8 : w2.cell? ⟨w.heap.size + 1 + 1, 8, none⟩ = some (.string (bs a.call.data)) := bX.cell 8
  have rX : rowOf w2 (w.heap.size + 1 + 1) 0 24 = some ({ a.call with fh := [], fh2 := [] } : Call).vals.toArray := bX.row 0 24 (by rw [Call.len]; omega)
  replace c0 := (hB2.cell (p := ⟨w.heap.size, 0, none⟩) hl1).trans c0
  replace c1 := (hB2.cell (p := ⟨w.heap.size, 1, none⟩) hl1).trans c1
  replace c2 := (hB2.cell (p := ⟨w.heap.size, 2, none⟩) hl1).trans c2
  replace c3 := (hB2.cell (p := ⟨w.heap.size, 3, none⟩) hl1).trans c3
  have tR := bR.thereB 0 24 (by rw [Call.len]; omega)
  have HB := Lib.hid (below_then hB hB2)
  have HR := Lib.hid bR
  clear rC hs hB hB2 bA bX bR hl1 HW
  go_wp2
  go_region
  go_wp2
  have HE := asked_end (is' := [.int .i64 a.var]) HR.out HB.out (by omega) HQ.out rfl
  refine ret_cells3 (w.heap.size + 1) 0 ({ callZ with proc := 7, offset := a.call.offset, data := a.call.data, how := 2 } : Call).vals _ _ Tryz.results33 Tryz.underlying36 rfl (by kernel_rfl) rfl rfl rfl HE.1 rfl ?_
  exact HE.2
set_option maxRecDepth 20000 in
set_option maxHeartbeats 1600000 in
theorem asked33_4 (a : Ask) (w : World) (hk : a.kind = 4) : Calls Tryz.prog 33 #[.agg a.vals.toArray] w (AskedP a w) := by
  have HQ := Lib.hid (show askedC a = ({ callZ with proc := 21 }, [a.var], true) from (if_neg (by omega)).trans ((if_neg (by omega)).trans ((if_neg (by omega)).trans (if_pos hk))))
  obtain ⟨bA, bR, hB, hs⟩ := chain2_blks w a.vals callZ.vals 38 36
  obtain ⟨w1, hw1⟩ : ∃ V, V = (w.alloc (.cells a.vals.toArray 38)).alloc (.cells callZ.vals.toArray 36) := ⟨_, rfl⟩
  rw [← hw1] at bA bR hB hs
  have HW := Lib.hid hw1
  clear hw1
  have c0 : w1.cell? ⟨w.heap.size, 0, none⟩ = some (.int .i64 4) := by rw [bA.cell 0]; show some (Value.int .i64 a.kind) = _; rw [hk]
  have c1 : w1.cell? ⟨w.heap.size, 1, none⟩ = some (.int .i64 a.var) := bA.cell 1
  have c2 : w1.cell? ⟨w.heap.size, 2, none⟩ = some (.int .i64 a.dir) := bA.cell 2
  have c3 : w1.cell? ⟨w.heap.size, 3, none⟩ = some (.int .i64 a.to_) := bA.cell 3
  have rC : rowOf w1 w.heap.size 6 24 = some a.call.vals.toArray := bA.row 6 24 (by rw [Ask.len]; omega)
  have hl1 := bA.lt
  go_enter Tryz.func33, Tryz.ntmps33
  go_upto_region 1 with fail
  change Code.wp _ _ _ _ ((w.alloc (.cells a.vals.toArray 38)).alloc (.cells callZ.vals.toArray 36))
  rw [← HW.out]
  go_upto_region 3 with fail
  change Code.wp _ _ _ _ (w1.alloc (.cells ({ a.call with fh := [], fh2 := [] } : Call).vals.toArray 36))
  have bX := Blk.new w1 36 ({ a.call with fh := [], fh2 := [] } : Call).vals
  have hB2 : Below w1.heap.size w1 (w1.alloc (.cells ({ a.call with fh := [], fh2 := [] } : Call).vals.toArray 36)) := (Below.refl _ _).alloc (Nat.le_refl _) _
  generalize w1.alloc (.cells ({ a.call with fh := [], fh2 := [] } : Call).vals.toArray 36) = w2 at *
  rw [hs] at bX
  replace bR := bR.stays hB2
  have hlt2 := bX.lt
  have hltR : w.heap.size + 1 < w2.heap.size := by omega
  have hlt0 : w.heap.size < w2.heap.size := by omega
  have hn0 : w.heap.size ≠ w.heap.size + 1 := by omega
  have hn2 : w.heap.size + 1 + 1 ≠ w.heap.size + 1 := by omega
  have d2 : w2.cell? ⟨w.heap.size + 1 + 1, 2, none⟩ = some (.string (bs a.call.name)) := bX.cell 2
  have d5 : w2.cell? ⟨w.heap.size + 1 + 1, 5, none⟩ = some (.int .i64 a.call.offset) := bX.cell 5
  have d6 : w2.cell? ⟨w.heap.size + 1 + 1, 6, none⟩ = some (.int .i64 a.call.count) := bX.cell 6
  have d8 : w2.cell? ⟨w.heap.size + 1 + 1, 8, none⟩ = some (.string (bs a.call.data)) := bX.cell 8
  have rX : rowOf w2 (w.heap.size + 1 + 1) 0 24 = some ({ a.call with fh := [], fh2 := [] } : Call).vals.toArray := bX.row 0 24 (by rw [Call.len]; omega)
  replace c0 := (hB2.cell (p := ⟨w.heap.size, 0, none⟩) hl1).trans c0
  replace c1 := (hB2.cell (p := ⟨w.heap.size, 1, none⟩) hl1).trans c1
  replace c2 := (hB2.cell (p := ⟨w.heap.size, 2, none⟩) hl1).trans c2
  replace c3 := (hB2.cell (p := ⟨w.heap.size, 3, none⟩) hl1).trans c3
  have tR := bR.thereB 0 24 (by rw [Call.len]; omega)
  have HB := Lib.hid (below_then hB hB2)
  have HR := Lib.hid bR
  clear rC hs hB hB2 bA bX bR hl1 HW
  go_wp2
  go_region
  go_wp2
  have HE := asked_end (is' := [.int .i64 a.var]) HR.out HB.out (by omega) HQ.out rfl
  refine ret_cells3 (w.heap.size + 1) 0 ({ callZ with proc := 21 } : Call).vals _ _ Tryz.results33 Tryz.underlying36 rfl (by kernel_rfl) rfl rfl rfl HE.1 rfl ?_
  exact HE.2
set_option maxRecDepth 20000 in
set_option maxHeartbeats 1600000 in
theorem asked33_5 (a : Ask) (w : World) (hk : a.kind = 5) : Calls Tryz.prog 33 #[.agg a.vals.toArray] w (AskedP a w) := by
  have HQ := Lib.hid (show askedC a = ({ a.call with fh := [], fh2 := [] }, [a.dir, a.to_, a.var], true) from (if_neg (by omega)).trans ((if_neg (by omega)).trans ((if_neg (by omega)).trans ((if_neg (by omega)).trans (if_pos hk)))))
  obtain ⟨bA, bR, hB, hs⟩ := chain2_blks w a.vals callZ.vals 38 36
  obtain ⟨w1, hw1⟩ : ∃ V, V = (w.alloc (.cells a.vals.toArray 38)).alloc (.cells callZ.vals.toArray 36) := ⟨_, rfl⟩
  rw [← hw1] at bA bR hB hs
  have HW := Lib.hid hw1
  clear hw1
  have c0 : w1.cell? ⟨w.heap.size, 0, none⟩ = some (.int .i64 5) := by rw [bA.cell 0]; show some (Value.int .i64 a.kind) = _; rw [hk]
  have c1 : w1.cell? ⟨w.heap.size, 1, none⟩ = some (.int .i64 a.var) := bA.cell 1
  have c2 : w1.cell? ⟨w.heap.size, 2, none⟩ = some (.int .i64 a.dir) := bA.cell 2
  have c3 : w1.cell? ⟨w.heap.size, 3, none⟩ = some (.int .i64 a.to_) := bA.cell 3
  have rC : rowOf w1 w.heap.size 6 24 = some a.call.vals.toArray := bA.row 6 24 (by rw [Ask.len]; omega)
  have hl1 := bA.lt
  go_enter Tryz.func33, Tryz.ntmps33
  go_upto_region 1 with fail
  change Code.wp _ _ _ _ ((w.alloc (.cells a.vals.toArray 38)).alloc (.cells callZ.vals.toArray 36))
  rw [← HW.out]
  go_upto_region 3 with fail
  change Code.wp _ _ _ _ (w1.alloc (.cells ({ a.call with fh := [], fh2 := [] } : Call).vals.toArray 36))
  have bX := Blk.new w1 36 ({ a.call with fh := [], fh2 := [] } : Call).vals
  have hB2 : Below w1.heap.size w1 (w1.alloc (.cells ({ a.call with fh := [], fh2 := [] } : Call).vals.toArray 36)) := (Below.refl _ _).alloc (Nat.le_refl _) _
  generalize w1.alloc (.cells ({ a.call with fh := [], fh2 := [] } : Call).vals.toArray 36) = w2 at *
  rw [hs] at bX
  replace bR := bR.stays hB2
  have hlt2 := bX.lt
  have hltR : w.heap.size + 1 < w2.heap.size := by omega
  have hlt0 : w.heap.size < w2.heap.size := by omega
  have hn0 : w.heap.size ≠ w.heap.size + 1 := by omega
  have hn2 : w.heap.size + 1 + 1 ≠ w.heap.size + 1 := by omega
  have d2 : w2.cell? ⟨w.heap.size + 1 + 1, 2, none⟩ = some (.string (bs a.call.name)) := bX.cell 2
  have d5 : w2.cell? ⟨w.heap.size + 1 + 1, 5, none⟩ = some (.int .i64 a.call.offset) := bX.cell 5
  have d6 : w2.cell? ⟨w.heap.size + 1 + 1, 6, none⟩ = some (.int .i64 a.call.count) := bX.cell 6
  have d8 : w2.cell? ⟨w.heap.size + 1 + 1, 8, none⟩ = some (.string (bs a.call.data)) := bX.cell 8
  have rX : rowOf w2 (w.heap.size + 1 + 1) 0 24 = some ({ a.call with fh := [], fh2 := [] } : Call).vals.toArray := bX.row 0 24 (by rw [Call.len]; omega)
  replace c0 := (hB2.cell (p := ⟨w.heap.size, 0, none⟩) hl1).trans c0
  replace c1 := (hB2.cell (p := ⟨w.heap.size, 1, none⟩) hl1).trans c1
  replace c2 := (hB2.cell (p := ⟨w.heap.size, 2, none⟩) hl1).trans c2
  replace c3 := (hB2.cell (p := ⟨w.heap.size, 3, none⟩) hl1).trans c3
  have tR := bR.thereB 0 24 (by rw [Call.len]; omega)
  have HB := Lib.hid (below_then hB hB2)
  have HR := Lib.hid bR
  clear rC hs hB hB2 bA bX bR hl1 HW
  obtain ⟨x, hx⟩ : ∃ x : Call, x = { a.call with fh := [], fh2 := [] } := ⟨_, rfl⟩
  rw [← hx] at rX HQ
  clear hx d2 d5 d6 d8
  go_wp2
  go_region
  go_wp2
  have HE := asked_end (is' := [.int .i64 a.dir, .int .i64 a.to_, .int .i64 a.var]) HR.out HB.out (by omega) HQ.out rfl
  refine ret_cells3 (w.heap.size + 1) 0 x.vals _ _ Tryz.results33 Tryz.underlying36 rfl (by kernel_rfl) rfl rfl rfl HE.1 rfl ?_
  exact HE.2
set_option maxRecDepth 20000 in
set_option maxHeartbeats 1600000 in
theorem asked33_0 (a : Ask) (w : World) (hk : a.kind ≠ 1 ∧ a.kind ≠ 2 ∧ a.kind ≠ 3 ∧ a.kind ≠ 4 ∧ a.kind ≠ 5) : Calls Tryz.prog 33 #[.agg a.vals.toArray] w (AskedP a w) := by
  have HQ := Lib.hid (show askedC a = (callZ, [], false) from (if_neg (by omega)).trans ((if_neg (by omega)).trans ((if_neg (by omega)).trans ((if_neg (by omega)).trans (if_neg (by omega))))))
  obtain ⟨bA, bR, hB, hs⟩ := chain2_blks w a.vals callZ.vals 38 36
  obtain ⟨w1, hw1⟩ : ∃ V, V = (w.alloc (.cells a.vals.toArray 38)).alloc (.cells callZ.vals.toArray 36) := ⟨_, rfl⟩
  rw [← hw1] at bA bR hB hs
  have HW := Lib.hid hw1
  clear hw1
  have c0 : w1.cell? ⟨w.heap.size, 0, none⟩ = some (.int .i64 a.kind) := by rw [bA.cell 0]; show some (Value.int .i64 a.kind) = _; rfl
  have c1 : w1.cell? ⟨w.heap.size, 1, none⟩ = some (.int .i64 a.var) := bA.cell 1
  have c2 : w1.cell? ⟨w.heap.size, 2, none⟩ = some (.int .i64 a.dir) := bA.cell 2
  have c3 : w1.cell? ⟨w.heap.size, 3, none⟩ = some (.int .i64 a.to_) := bA.cell 3
  have rC : rowOf w1 w.heap.size 6 24 = some a.call.vals.toArray := bA.row 6 24 (by rw [Ask.len]; omega)
  have hl1 := bA.lt
  have k1 : (a.kind == 1) = false := by simpa using hk.1
  have k2 : (a.kind == 2) = false := by simpa using hk.2.1
  have k3 : (a.kind == 3) = false := by simpa using hk.2.2.1
  have k4 : (a.kind == 4) = false := by simpa using hk.2.2.2.1
  have k5 : (a.kind == 5) = false := by simpa using hk.2.2.2.2
  clear hk
  go_enter Tryz.func33, Tryz.ntmps33
  go_upto_region 1 with fail
  change Code.wp _ _ _ _ ((w.alloc (.cells a.vals.toArray 38)).alloc (.cells callZ.vals.toArray 36))
  rw [← HW.out]
  go_upto_region 3 with fail
  change Code.wp _ _ _ _ (w1.alloc (.cells ({ a.call with fh := [], fh2 := [] } : Call).vals.toArray 36))
  have bX := Blk.new w1 36 ({ a.call with fh := [], fh2 := [] } : Call).vals
  have hB2 : Below w1.heap.size w1 (w1.alloc (.cells ({ a.call with fh := [], fh2 := [] } : Call).vals.toArray 36)) := (Below.refl _ _).alloc (Nat.le_refl _) _
  generalize w1.alloc (.cells ({ a.call with fh := [], fh2 := [] } : Call).vals.toArray 36) = w2 at *
  rw [hs] at bX
  replace bR := bR.stays hB2
  have hlt2 := bX.lt
  have hltR : w.heap.size + 1 < w2.heap.size := by omega
  have hlt0 : w.heap.size < w2.heap.size := by omega
  have hn0 : w.heap.size ≠ w.heap.size + 1 := by omega
  have hn2 : w.heap.size + 1 + 1 ≠ w.heap.size + 1 := by omega
  have d2 : w2.cell? ⟨w.heap.size + 1 + 1, 2, none⟩ = some (.string (bs a.call.name)) := bX.cell 2
  have d5 : w2.cell? ⟨w.heap.size + 1 + 1, 5, none⟩ = some (.int .i64 a.call.offset) := bX.cell 5
  have d6 : w2.cell? ⟨w.heap.size + 1 + 1, 6, none⟩ = some (.int .i64 a.call.count) := bX.cell 6
  have d8 : w2.cell? ⟨w.heap.size + 1 + 1, 8, none⟩ = some (.string (bs a.call.data)) := bX.cell 8
  have rX : rowOf w2 (w.heap.size + 1 + 1) 0 24 = some ({ a.call with fh := [], fh2 := [] } : Call).vals.toArray := bX.row 0 24 (by rw [Call.len]; omega)
  replace c0 := (hB2.cell (p := ⟨w.heap.size, 0, none⟩) hl1).trans c0
  replace c1 := (hB2.cell (p := ⟨w.heap.size, 1, none⟩) hl1).trans c1
  replace c2 := (hB2.cell (p := ⟨w.heap.size, 2, none⟩) hl1).trans c2
  replace c3 := (hB2.cell (p := ⟨w.heap.size, 3, none⟩) hl1).trans c3
  have tR := bR.thereB 0 24 (by rw [Call.len]; omega)
  have HB := Lib.hid (below_then hB hB2)
  have HR := Lib.hid bR
  clear rC hs hB hB2 bA bX bR hl1 HW
  go_wp2
  have h1 : Blk (putsW w2 (w.heap.size + 1) 0 callZ.vals) (w.heap.size + 1) 36 callZ.vals := by
    rw [putsW_eq]; exact HR.out.whole (by rw [Call.len])
  refine ret_cells3 (w.heap.size + 1) 0 callZ.vals (.slice none 0 0) (.bool false) Tryz.results33 Tryz.underlying36 rfl (by kernel_rfl) rfl rfl rfl h1.range rfl ?_
  refine ⟨none, 0, by rw [HQ.out]; rfl, by rw [HQ.out]; exact At.nil, ?_⟩
  rw [putsW_eq]
  exact Below.setWhole HB.out (by omega) _
theorem asked33_any (a : Ask) (w : World) : Calls Tryz.prog 33 #[.agg a.vals.toArray] w (AskedP a w) := by
  by_cases h1 : a.kind = 1
  · exact asked33_1 a w h1
  by_cases h2 : a.kind = 2
  · exact asked33_2 a w h2
  by_cases h3 : a.kind = 3
  · exact asked33_3 a w h3
  by_cases h4 : a.kind = 4
  · exact asked33_4 a w h4
  by_cases h5 : a.kind = 5
  · exact asked33_5 a w h5
  exact asked33_0 a w ⟨h1, h2, h3, h4, h5⟩
end Go.Proofs.YtfjflkmhhbhceaaGreatDoor


/-
  Layer 33, walks: bytes that are written at a place: how they came in, and whether they are too long; how many bytes wait. Conditions: machine lengths.
-/
namespace Go.Proofs.YtfjflkmhhbhceaaGreatDoor
open Go.ChangeShapes Go.WideShapes Go.ChangeAt Go.RowKit Go.Deep
open Go.RowKit
attribute [local go_sem ↓] Go.wp_at_zero Go.wp_at_succ
attribute [local go_sem] rowAt_ptr rowOf_drew rowOf_drewN rowOf_alloc_past rowOf_new
/-- bytes that are written at a place (kind 2, 3), or something is read (0), or closed (1) -/
structure ByW where
  kind : Int
  at_ : Int
  s : List UInt8
def ByW.vals (x : ByW) : List Value := [.int .u8 x.kind, .int .u16 x.at_, .string (bs x.s)]
theorem ByW.len (x : ByW) : x.vals.length = 3 := rfl
theorem ByW.one (x : ByW) : ∀ v ∈ x.vals, v.oneCell' = true := by
  intro v hv
  unfold ByW.vals at hv
  simp only [List.mem_cons, List.not_mem_nil, or_false] at hv
  rcases hv with rfl | rfl | rfl <;> rfl
instance : Inhabited ByW := ⟨⟨0, 0, []⟩⟩
structure ByG (x : ByW) : Prop where
  kind : 0 ≤ x.kind ∧ x.kind ≤ 255
  at_ : 0 ≤ x.at_ ∧ x.at_ ≤ 65535
section
variable {H : Type} {enc : TypeId × Value → H} {w : World} {base : Nat} {spare : Nat → Bool} {held : Bool} {fuel : Nat} {cs : List Value} {x : DataW H × List MemPlace}
theorem open_byW (h : DataW.trod enc Tryz.prog w base spare held fuel 70 cs = some x) : ∃ a : ByW, cs = a.vals ∧ ByG a := by
  have hl : cs.length = 3 := (len_of Tryz.underlying70 h).trans (by kernel_rfl)
  obtain ⟨z0, h0, g0⟩ := int_field Tryz.underlying70 h 0 0 _ rfl (e := 5) rfl rfl (by kernel_rfl) Tryz.underlying5
  obtain ⟨z1, h1, g1⟩ := int_field Tryz.underlying70 h 1 1 _ rfl (e := 68) rfl rfl (by kernel_rfl) Tryz.underlying68
  obtain ⟨z2, h2, g2⟩ := string_field Tryz.underlying70 h 2 2 _ rfl (e := 9) rfl rfl (by kernel_rfl) Tryz.underlying9
  have hend : cs.drop 3 = [] := List.drop_of_length_le (by omega)
  have e : cs = cs.drop 0 := rfl
  simp only [Nat.reduceAdd] at h0 h1 h2
  refine ⟨⟨z0, z1, z2.data.toList⟩, e.trans ?_, ?_, ?_⟩
  · rw [h0, h1, h2, hend]
    simp only [ByW.vals, bs_list]
  · unfold Lit.wf at g0
    simp only [Bool.and_eq_true, decide_eq_true_eq] at g0
    exact ⟨g0.1, g0.2⟩
  · unfold Lit.wf at g1
    simp only [Bool.and_eq_true, decide_eq_true_eq] at g1
    exact ⟨g1.1, g1.2⟩
theorem open_bytes33 (hlt : ∀ p ∈ x.2, p.block < w.heap.size) {A : Option Addr} {n c : Nat} (h : DataW.trod enc Tryz.prog w base spare held fuel 66 [.slice A n c] = some x) :
    ∃ l : List ByW, n = l.length ∧ n ≤ maxLen ∧ At w 3 A (l.map ByW.vals) ∧ ∀ a ∈ l, ByG a := by
  obtain ⟨l, rfl, hA, hg⟩ := rows_of (α := ByW) (sz := 3) Tryz.underlying66 (by kernel_rfl) (by omega) ByW.vals ByG hlt (fun _ _ _ hp ht => by
    obtain ⟨a, h1, h2⟩ := open_byW ht
    exact ⟨a, h1, h2⟩) h
  exact ⟨l, rfl, slice_len Tryz.underlying66 h, hA, hg⟩
end
/-- it is not too long -/
def ByFew (x : ByW) : Prop := x.s.length ≤ 256 ∧ x.at_ % 1024 + x.s.length ≤ 1024
def SaysB33 (l : List ByW) (w : World) (e : Ending) (w' : World) : Prop := ∃ b, e = .returned (.bool b) ∧ (b = false → l.length ≤ 40 ∧ ∀ x ∈ l, ByFew x) ∧ Below w.heap.size w w'
theorem SaysB33.yes {l : List ByW} {w w' : World} (hb : Below w.heap.size w w') : SaysB33 l w (.returned (.bool true)) w' := ⟨true, rfl, (fun h => by cases h), hb⟩
theorem SaysB33.no {l : List ByW} {w w' : World} (h : l.length ≤ 40 ∧ ∀ x ∈ l, ByFew x) (hb : Below w.heap.size w w') : SaysB33 l w (.returned (.bool false)) w' := ⟨false, rfl, (fun _ => h), hb⟩
set_option maxRecDepth 20000 in
set_option maxHeartbeats 1600000 in
theorem refLong33_any (A : Option Addr) (cap : Nat) (l : List ByW) (w : World) (hl : l.length ≤ 9223372036854775807) (hA : At w 3 A (l.map ByW.vals)) (hG : ∀ x ∈ l, ByG x) :
    Calls Tryz.prog 17 #[.slice A l.length cap] w (SaysB33 l w) := by
  have HA := Lib.hid hA
  have HG := Lib.hid hG
  clear hA hG
  go_enter Tryz.func17, Tryz.ntmps17
  go_wp2
  go_loopw [3] (fun i wr => ∃ k : Nat, k ≤ l.length ∧ k ≤ 40 ∧ i = .int .i64 k ∧ (∀ x ∈ l.take k, ByFew x) ∧ Below w.heap.size w wr) (fun i _ => l.length - (intOf i).toNat)
  case atStart => exact ⟨0, Nat.zero_le _, by omega, rfl, (by simp), Below.refl _ _⟩
  case round =>
    obtain ⟨k, hk, hk40, rfl, hok, hb⟩ := hrel
    have HB := Lib.hid hb
    have HO := Lib.hid hok
    have hk0 : (0 : Int) ≤ (k : Int) := Int.natCast_nonneg _
    by_cases hlt : k < l.length ∧ k < 40
    · obtain ⟨hlt, hlt4⟩ := hlt
      have hk1 : (k : Int) < (l.length : Int) := by omega
      have hk4 : (k : Int) < 40 := by omega
      have hiw : IntKind.i64.wrap ((k : Int) + 1) = ((k + 1 : Nat) : Int) := by rw [IntWalk.i64_in _ (by omega)]; omega
      obtain ⟨b1, o1, hna, hb1, -, cc⟩ := rowCell8 ByW.len (by decide) (HA.out.below hb) hlt
      have c1 := cc 1 (.int .u16 l[k].at_) rfl
      have c2 := cc 2 (.string (bs l[k].s)) rfl
      have zs := bs_size l[k].s
      have hg := HG.out _ (List.getElem_mem hlt)
      have HNX := Lib.hid (fun (h : ByFew l[k]) => (show ∀ x ∈ l.take (k + 1), ByFew x by
        intro q hq
        rw [take_next _ _ hlt] at hq
        rcases List.mem_append.1 hq with hq | hq
        · exact hok q hq
        · simp only [List.mem_singleton] at hq
          subst hq
          exact h))
      generalize l[k] = x at *
      subst hna
      have hat := hg.at_
      have hm0 : 0 ≤ x.at_ % 1024 := Int.emod_nonneg _ (by decide)
      have hm1 : x.at_ % 1024 < 1024 := Int.emod_lt_of_pos _ (by decide)
      have htm : x.at_.tmod 1024 = x.at_ % 1024 := Int.tmod_eq_emod_of_nonneg hat.1
      have hu16 : IntKind.u16.wrap (x.at_ % 1024) = x.at_ % 1024 := by simp [IntKind.wrap, IntKind.bits, IntKind.signed]; omega
      have hi64 : IntKind.i64.wrap (x.at_ % 1024) = x.at_ % 1024 := IntWalk.i64_in _ (by omega)
      clear cc hok hb
      by_cases hd : x.s.length ≤ 256
      · have hd1 : ¬ (256 : Int) < (x.s.length : Int) := by omega
        have hsum : IntKind.i64.wrap (x.at_ % 1024 + ((x.s.length : Nat) : Int)) = x.at_ % 1024 + ((x.s.length : Nat) : Int) := IntWalk.i64_in _ (by omega)
        by_cases hs : x.at_ % 1024 + x.s.length ≤ 1024
        · have hs1 : ¬ (1024 : Int) < x.at_ % 1024 + ((x.s.length : Nat) : Int) := by omega
          have HN := Lib.hid (HNX.out ⟨hd, hs⟩)
          go_wp2
          go_quiet (fail)
          all_goals
            go_wp2
            go_roundw
            case rel => exact ⟨k + 1, by omega, by omega, by go_num, HN.out, bdN HB.out _⟩
            case measure => simp [intOf]; omega
        · have hs1 : (1024 : Int) < x.at_ % 1024 + ((x.s.length : Nat) : Int) := by omega
          go_wp2
          go_quiet (fail)
          all_goals
            go_wp2
            go_ret
            exact SaysB33.yes (bdN HB.out _)
      · have hd1 : (256 : Int) < (x.s.length : Int) := by omega
        go_wp2
        go_quiet (fail)
        all_goals
          go_wp2
          go_ret
          exact SaysB33.yes (bdN HB.out _)
    · have hE : l.length ≤ k ∨ 40 ≤ k := by omega
      clear hlt hok hb
      by_cases h1 : k < l.length
      · have p1 : (k : Int) < (l.length : Int) := by omega
        have p2 : ¬ (k : Int) < 40 := by omega
        have p3 : (40 : Int) < (l.length : Int) := by omega
        clear hE h1
        go_wp2
        all_goals (go_ret; exact SaysB33.yes HB.out)
      · have p1 : ¬ (k : Int) < (l.length : Int) := by omega
        have p3 : ¬ (40 : Int) < (l.length : Int) := by omega
        obtain rfl : k = l.length := by omega
        have HY := Lib.hid (show l.length ≤ 40 ∧ ∀ x ∈ l, ByFew x from ⟨hk40, by have := HO.out; rw [List.take_of_length_le (Nat.le_refl _)] at this; exact this⟩)
        clear hE h1
        go_wp2
        all_goals (go_ret; exact SaysB33.no HY.out HB.out)
set_option maxRecDepth 20000 in
theorem waits33_any (F : Nat → Prop) (w : World) (g : Nat) (c : ClD) (z : Clnt) (l : List Recd) (hC : ClAt F w g c z l) (n : Nat) (hn : n < 4) :
    Calls Tryz.prog 20 #[.pointer (some ⟨g, 0, none⟩), .int .i64 (n : Int)] w fun e w' => e = .returned (.int .i64 (((c.at_ n).bytes.length : Nat) : Int)) ∧ Below w.heap.size w w' := by
  obtain ⟨-, -, -, q3⟩ := place_cells z hn
  have hP : c.at_ n = z.place n := hC.is.at_ hn
  have hgl := hC.blk.lt
  have hb : Below w.heap.size w (w.alloc (.cells #[.int .i64 (n : Int)] 3)) := (Below.refl _ _).alloc (Nat.le_refl _) _
  have c3 : w.cell? ⟨g, 3 + n * 4 + 3, none⟩ = some (.string (bs (c.at_ n).bytes)) := by rw [hP]; exact (hC.blk.cell _).trans q3
  have d3 := (hb.cell (p := ⟨g, 3 + n * 4 + 3, none⟩) hgl).trans c3
  have hn0 : (0 : Int) ≤ (n : Int) := by omega
  have hn1 : (n : Int) < 4 := by omega
  have hpl : [(n : Int)].all placeC = true := by simp [placeC, hn1]
  have hA : At (w.alloc (.cells #[.int .i64 (n : Int)] 3)) 1 (some ⟨w.heap.size, 0, none⟩) ([(n : Int)].map int1) := by
    intro i r hi
    cases i with
    | zero =>
      injection hi with hi
      subst hi
      refine ⟨w.heap.size, 0, rfl, by simp, fun j u hu => ?_⟩
      cases j with
      | zero =>
        injection hu with hu
        subst hu
        exact (Blk.new w 3 [.int .i64 (n : Int)]).cell 0
      | succ j => cases hu
    | succ i => cases hi
  have KT := Lib.hid (there33_any (some ⟨w.heap.size, 0, none⟩) 1 [(n : Int)] _ (by simp) hA)
  rw [hpl] at KT
  have HB := Lib.hid hb
  have zs := bs_size (c.at_ n).bytes
  clear hC hP q3 hA hpl hb
  go_enter Tryz.func20, Tryz.ntmps20
  go_wp2_with (first
    | (go_at_call 35; refine KT.out.mono ?_; rintro e wt ⟨rfl, hwt⟩; rw [hwt]; clear hwt)
    | fail)
  go_ret
  exact ⟨rfl, HB.out⟩
end Go.Proofs.YtfjflkmhhbhceaaGreatDoor
