/-
  Layer 8 in plain words: how long the bytes of results are. No condition.
-/
import Derived.Test.YtapcjojlkeaadaaGreatDoorP32
import Derived.Test.YtapcjojlkeaadaaGreatDoorP21
import Derived.Deep.Cut
namespace Go.Proofs.YtapcjojlkeaadaaGreatDoor
open Go.RowKit

theorem flat_len8 {α : Type} (f : α → List UInt8) (n : Nat) (l : List α) (h : ∀ x ∈ l, (f x).length ≤ n) : (l.flatMap f).length ≤ n * l.length := by
  induction l with
  | nil => simp
  | cons a l ih =>
    rw [List.flatMap_cons, List.length_append, List.length_cons, Nat.mul_succ]
    have h1 := h a (by simp)
    have h2 := ih fun x hx => h x (by simp [hx])
    omega
theorem opq_len8 (s : List UInt8) : (opq s).length ≤ s.length + 8 := by
  unfold opq
  have h1 := filled_len s
  have h2 := padn_lt s.length
  have h3 := num_len s.length 4
  rw [List.length_append]
  omega
theorem entB_len (whole : Bool) (x : Entry) (h : entM whole x) : (entB whole x).length ≤ 500 := by
  obtain ⟨_, h2, _, h4⟩ := h
  have e1 := num_len x.gen.toNat 8
  have e2 := num_len x.cookie.toNat 8
  have e3 := opq_len8 x.name
  have e4 := opq_len8 x.fh
  have e5 := x.attr.bytes_len
  unfold entB
  rw [List.length_append, List.length_append, List.length_append]
  cases whole
  · simp only [Bool.false_eq_true, if_false, List.length_nil]
    omega
  · obtain ⟨_, _, h6⟩ := h4 rfl
    rw [if_pos rfl, List.length_append]
    omega
theorem numB_len (n : Int) : (numB n).length = 8 := num_len _ 8
theorem rB8_len (d : RepD) (c : Nat) (hm : rM8 d c) (hc : pLetter c) : (rB8 d c).length ≤ 33000 := by
  rcases hc with rfl | rfl | rfl | rfl | rfl | rfl | rfl | rfl | rfl | rfl | rfl | rfl | rfl | rfl
  · have h1 : d.f.fh.length ≤ 64 := hm
    have := opq_len8 d.f.fh
    show (opq d.f.fh).length ≤ 33000
    omega
  · have := d.f.obj.bytes_len
    show d.f.obj.bytes.length ≤ 33000
    omega
  · have := d.f.dir.bytes_len
    show d.f.dir.bytes.length ≤ 33000
    omega
  · have := d.f.wcc.bytes_len
    show d.f.wcc.bytes.length ≤ 33000
    omega
  · have := d.f.wcc2.bytes_len
    show d.f.wcc2.bytes.length ≤ 33000
    omega
  · show (num d.f.access.toNat 4).length ≤ 33000
    rw [num_len]; omega
  · show (num d.f.count.toNat 4).length ≤ 33000
    rw [num_len]; omega
  · show (num d.f.stable.toNat 4).length ≤ 33000
    rw [num_len]; omega
  · show (num d.f.verf.toNat 8).length ≤ 33000
    rw [num_len]; omega
  · show (truth d.f.eof).length ≤ 33000
    simp [truth, num_len]
  · have h1 : d.f.data.length ≤ 256 := hm
    have := opq_len8 d.f.data
    show (opq d.f.data).length ≤ 33000
    omega
  · have h1 : d.us.length ≤ 16 ∧ ∀ n ∈ d.us, numM n := hm
    show (num d.us.length 4 ++ d.us.flatMap numB).length ≤ 33000
    have h2 := flat_len8 numB 8 d.us fun n _ => Nat.le_of_eq (numB_len n)
    rw [List.length_append, num_len]
    omega
  · have h1 : d.es.length ≤ 64 ∧ ∀ x ∈ d.es, entM false x := hm
    show (num d.es.length 4 ++ d.es.flatMap (entB false)).length ≤ 33000
    have h2 := flat_len8 (entB false) 500 d.es fun n hn => entB_len false n (h1.2 n hn)
    rw [List.length_append, num_len]
    omega
  · have h1 : d.es.length ≤ 64 ∧ ∀ x ∈ d.es, entM true x := hm
    show (num d.es.length 4 ++ d.es.flatMap (entB true)).length ≤ 33000
    have h2 := flat_len8 (entB true) 500 d.es fun n hn => entB_len true n (h1.2 n hn)
    rw [List.length_append, num_len]
    omega
theorem pLaid_len (d : RepD) (l : List UInt8) (hl : ∀ k (hk : k < l.length), pLetter l[k].toNat) (hm : ∀ k (hk : k < l.length), rM8 d l[k].toNat) (k : Nat) (hk : k ≤ l.length) : (pLaid d l k).length ≤ 33000 * k := by
  induction k with
  | zero => simp [pLaid]
  | succ k ih =>
    have h1 := ih (by omega)
    have h2 := rB8_len d l[k].toNat (hm k hk) (hl k hk)
    rw [pLaid_succ d l k hk, List.length_append]
    omega
theorem flat_take {α : Type} (f : α → List UInt8) (l : List α) (k : Nat) (hk : k < l.length) : (l.take (k + 1)).flatMap f = (l.take k).flatMap f ++ f l[k] := by
  rw [List.take_add_one, List.getElem?_eq_getElem hk, List.flatMap_append]
  simp
theorem flat_take_len {α : Type} (f : α → List UInt8) (n : Nat) (l : List α) (h : ∀ x ∈ l, (f x).length ≤ n) (k : Nat) : ((l.take k).flatMap f).length ≤ n * l.length := by
  have h1 := flat_len8 f n (l.take k) fun x hx => h x (List.mem_of_mem_take hx)
  have h2 : (l.take k).length ≤ l.length := by rw [List.length_take]; omega
  exact Nat.le_trans h1 (Nat.mul_le_mul_left n h2)
end Go.Proofs.YtapcjojlkeaadaaGreatDoor

/-
  Layer 5, walks: what the reference gets. Conditions: a reader at a block of its own; texts are machine texts.
-/
namespace Go.Proofs.YtapcjojlkeaadaaGreatDoor
open Go.RowKit
attribute [local go_sem ↓] Go.wp_at_zero Go.wp_at_succ
attribute [local go_sem] rowAt_ptr rowOf_drew rowOf_drewN rowOf_alloc_past rowOf_new
attribute [local go_sem ↓] ldAttrR ldOpt ldPost ldWcc

attribute [local go_sem] Attr.at0 Attr.lat0 Attr.at1 Attr.lat1 Attr.at2 Attr.lat2 Attr.at3 Attr.lat3 Attr.at4 Attr.lat4 Attr.at5 Attr.lat5 Attr.at6 Attr.lat6 Attr.at7 Attr.lat7 Attr.at8 Attr.lat8 Attr.at9 Attr.lat9 Attr.sub0_10 Attr.lsub0_10 Attr.len Opt.at0 Opt.lat0 Opt.at1 Opt.lat1 Opt.sub0_2 Opt.lsub0_2 Opt.len Sett.at0 Sett.lat0 Sett.at1 Sett.lat1 Sett.at2 Sett.lat2 Sett.at3 Sett.lat3 Sett.at4 Sett.lat4 Sett.at5 Sett.lat5 Sett.at6 Sett.lat6 Sett.at7 Sett.lat7 Sett.at8 Sett.lat8 Sett.at9 Sett.lat9 Sett.sub0_10 Sett.lsub0_10 Sett.sub0_2 Sett.lsub0_2 Sett.sub2_2 Sett.lsub2_2 Sett.sub4_2 Sett.lsub4_2 Sett.sub6_2 Sett.lsub6_2 Sett.sub8_2 Sett.lsub8_2 Sett.len Post.at0 Post.lat0 Post.at1 Post.lat1 Post.at2 Post.lat2 Post.at3 Post.lat3 Post.at4 Post.lat4 Post.at5 Post.lat5 Post.at6 Post.lat6 Post.at7 Post.lat7 Post.at8 Post.lat8 Post.at9 Post.lat9 Post.at10 Post.lat10 Post.sub0_11 Post.lsub0_11 Post.sub1_10 Post.lsub1_10 Post.len Wcc.at0 Wcc.lat0 Wcc.at1 Wcc.lat1 Wcc.at2 Wcc.lat2 Wcc.at3 Wcc.lat3 Wcc.at4 Wcc.lat4 Wcc.at5 Wcc.lat5 Wcc.at6 Wcc.lat6 Wcc.at7 Wcc.lat7 Wcc.at8 Wcc.lat8 Wcc.at9 Wcc.lat9 Wcc.at10 Wcc.lat10 Wcc.at11 Wcc.lat11 Wcc.at12 Wcc.lat12 Wcc.sub0_13 Wcc.lsub0_13 Wcc.sub0_2 Wcc.lsub0_2 Wcc.sub2_11 Wcc.lsub2_11 Wcc.sub3_10 Wcc.lsub3_10 Wcc.len optV

theorem infoAttrR : (Tryz.prog.info? 25).map (fun i => (i.zero, i.size)) = some (some (.agg attrZ.vals.toArray), 10) := by kernel_rfl
theorem infoPostR : (Tryz.prog.info? 27).map (fun i => (i.zero, i.size)) = some (some (.agg postZ.vals.toArray), 11) := by kernel_rfl
theorem ReadsF.drew {g : Nat} {r : Rs} {w wx : World} (h : ReadsF g r w wx) : ReadsF g r w wx.drew := by
  obtain ⟨⟨S, a, hB, k⟩, hT⟩ := h
  exact ⟨⟨S, a, hB.drew, k⟩, hT.drew⟩

set_option maxHeartbeats 1600000 in
theorem refGetPost_any (g : Nat) (r : Rs) (w : World) (hR : RdF w g r) :
    Calls Tryz.prog 46 #[.pointer (some ⟨g, 0, none⟩)] w (GaveF g (rPost r).2 (gotV (gotR Post.ok postZ (rPost r)).1.vals (gotR Post.ok postZ (rPost r)).2) w) := by
  have hb := Blk.new w 27 postZ.vals
  have hB : Below w.heap.size w (w.alloc (.cells postZ.vals.toArray 27)) := (Below.refl _ _).alloc (Nat.le_refl _) _
  have hR1 := hR.stays hB
  have hne : w.heap.size ≠ g := Nat.ne_of_gt hR.lt
  have hgl := hR.lt
  clear hR
  go_enter Tryz.func46, Tryz.ntmps46
  go_wp2_with fail
  change Calls _ _ _ (w.alloc (.cells postZ.vals.toArray 27)) _
  generalize w.alloc (.cells postZ.vals.toArray 27) = w0 at *
  refine (postedF_any g r _ hR1).mono ?_
  rintro e w1 ⟨he, hQ⟩
  obtain ⟨x, hx⟩ : ∃ x, x = rPost r := ⟨_, rfl⟩
  rw [← hx] at he hQ
  have HX := Lib.hid hx.symm
  clear hx
  subst he
  obtain ⟨av, rr⟩ := x
  simp only at hQ
  have hbr := (hQ.keeps hb hne).alloc (.cells av.vals.toArray 27)
  have hbp := Blk.new w1 27 av.vals
  have hQ1 := (ReadsF.behind hB hQ).new ((Below.refl _ _).alloc (Nat.le_refl _) (.cells av.vals.toArray 27))
  clear hQ hb
  obtain ⟨w2, hw2⟩ : ∃ w2, w2 = w1.alloc (.cells av.vals.toArray 27) := ⟨_, rfl⟩
  rw [← hw2] at hbr hbp hQ1
  have HW2 := Lib.hid hw2
  clear hw2
  go_upto_region 2 with (first | (refine wpList_new_struct (by rfl) (by rfl) 27 (by rfl) _ _ (by rfl) av.vals infoPostR (by rfl) (by rfl) (Post.one _) (by rfl) (by rfl) ?_; rw [← HW2.out]) | fail)
  have hEc := ReadsF.err hQ1.1
  have rp : rowOf w2 (w1.heap.size) 0 11 = some av.vals.toArray := hbp.row 0 11 (by simp [Post.len])
  by_cases hE : rr.e = 0
  · have hE' : (rr.e != 0) = false := by simpa using hE
    have HE := Lib.hid hE
    clear hE
    go_wp2_with fail
    refine (refPost5_any av _).mono ?_
    rintro e w7 ⟨rfl, hb⟩
    have hs := Stb.of hb
    have hlp := hbp.lt
    have hb7 := hbr.stays hb
    have hQ7 := hQ1.new hb
    clear hb hQ1
    cases ho : av.ok
    · have HN := Lib.hid (show gotR Post.ok postZ (av, rr) = (postZ, 14) by simp [gotR, HE.out, ho])
      have HQ := Lib.hid (ReadsF.lay (cs := postZ.vals) hQ7 hb7 rfl hne (Nat.le_refl _))
      clear ho hQ7
      go_wp2_with (first | (refine wpList_store_whole (by rfl) 27 _ _ (by rfl) w.heap.size postZ.vals _ hb7 (by rfl) (by rfl) (by rfl) (by kernel_rfl) (Post.one _) ?_) | fail)
      refine ret_cells2 w.heap.size 0 postZ.vals (.int .i64 14) Tryz.results46 Tryz.underlying27 rfl (by kernel_rfl) rfl rfl HQ.out.2.range rfl ?_
      rw [HX.out, HN.out]
      exact ⟨rfl, HQ.out.1⟩
    · have HN := Lib.hid (show gotR Post.ok postZ (av, rr) = (av, 0) by simp [gotR, HE.out, ho])
      have HQ := Lib.hid (ReadsF.lay (cs := av.vals) hQ7 hb7 rfl hne (Nat.le_refl _))
      clear ho hQ7
      go_wp2_with (first | (refine wpList_store_whole (by rfl) 27 _ _ (by rfl) w.heap.size av.vals _ hb7 (by rfl) (by rfl) (by rfl) (by kernel_rfl) (Post.one _) ?_) | fail)
      refine ret_cells2 w.heap.size 0 av.vals (.int .i64 0) Tryz.results46 Tryz.underlying27 rfl (by kernel_rfl) rfl rfl HQ.out.2.range rfl ?_
      rw [HX.out, HN.out]
      exact ⟨rfl, HQ.out.1⟩
  · have hE' : (rr.e != 0) = true := by simpa using hE
    have HN := Lib.hid (show gotR Post.ok postZ (av, rr) = (postZ, rr.e) by simp [gotR, hE])
    have hc := hbr.cell
    have hf := hbr.frozen
    have HQ := Lib.hid (ReadsF.lay (cs := postZ.vals) hQ1 hbr rfl hne (Nat.le_refl _))
    clear hE hQ1
    go_wp2
    go_region
    change Exit.then _ _ _ _ ((w2.setCells w.heap.size 0 postZ.vals).drew)
    go_wp2
    refine ret_cells2 w.heap.size 0 postZ.vals (.int .i64 rr.e) Tryz.results46 Tryz.underlying27 rfl (by kernel_rfl) rfl rfl HQ.out.2.drew.range rfl ?_
    rw [HX.out, HN.out]
    exact ⟨rfl, HQ.out.1.drew⟩

set_option maxRecDepth 20000 in
set_option maxHeartbeats 4800000 in
theorem refGetWcc_any (g : Nat) (r : Rs) (w : World) (hR : RdF w g r) :
    Calls Tryz.prog 47 #[.pointer (some ⟨g, 0, none⟩)] w (GaveF g (rWcc r).2 (gotV (gotR Wcc.ok wccZ (rWcc r)).1.vals (gotR Wcc.ok wccZ (rWcc r)).2) w) := by
  obtain ⟨hbr, hbp, hB, hsz⟩ := chain2_blks w wccZ.vals wccZ.vals 31 31
  have hR1 := hR.stays hB
  have hQ1 := ReadsF.behind hB (ReadsF.refl hR1)
  have hne : w.heap.size ≠ g := Nat.ne_of_gt hR.lt
  have hne1 : w.heap.size + 1 ≠ g := by have := hR.lt; omega
  clear hR hR1
  go_enter Tryz.func47, Tryz.ntmps47
  go_wp2_with fail
  change Calls _ _ _ ((w.alloc (.cells wccZ.vals.toArray 31)).alloc (.cells wccZ.vals.toArray 31)) _
  generalize (w.alloc (.cells wccZ.vals.toArray 31)).alloc (.cells wccZ.vals.toArray 31) = W0 at *
  refine (refOptR_any g r _ hQ1.1).mono ?_
  rintro e v0 ⟨he, hQ⟩
  obtain ⟨x0, hx0⟩ : ∃ x, x = rOpt r := ⟨_, rfl⟩
  rw [← hx0] at he hQ
  have HX0 := Lib.hid hx0.symm
  clear hx0
  subst he
  obtain ⟨a0, r0⟩ := x0
  simp only at hQ
  have hbr' := Blk.farCells (g := w.heap.size) (b := w.heap.size + 1) (by omega) (optV a0) 0 _ (hQ.keeps hbr hne)
  have hbp0 := hQ.keeps hbp hne1
  have hbp' := hbp0.sets (optV a0) _ 0
  rw [show setAt _ 0 (optV a0) = (Wcc.mk (optOf a0) postZ).vals from rfl] at hbp'
  have hq := hQ1.trans hQ
  have hQ' : ReadsF g r0 w (v0.setCells (w.heap.size + 1) 0 (optV a0)) := ⟨hq.1.touch (Touch.setCells (F := fun i => i = w.heap.size + 1) (.inl rfl) _ 0 v0 (Touch.refl _ _)) (fun hh => hne1 hh.symm), Touch.setCells (.inr (by omega)) _ 0 v0 hq.2⟩
  obtain ⟨W0, hW0⟩ : ∃ W, W = v0.setCells (w.heap.size + 1) 0 (optV a0) := ⟨_, rfl⟩
  rw [← hW0] at hbr' hbp' hQ'
  have HW0 := Lib.hid hW0
  clear hbr hbp hQ1 hQ hq hW0
  have hbr := hbr'
  have hbp := hbp'
  have hQ1 := hQ'
  clear hbr' hbp' hQ'
  go_wp2_with (first | (refine wpList_store_part (by rfl) 29 _ _ (by rfl) (w.heap.size + 1) 0 (optV a0) _ hbp0 (by simp [Wcc.len, optV]) (by rfl) (by rfl) (by kernel_rfl) (optV_one _) ?_; rw [← HW0.out]) | fail)
  clear hbp0
  refine (postedF_any g r0 _ hQ1.1).mono ?_
  rintro e v1 ⟨he, hQ⟩
  obtain ⟨x1, hx1⟩ : ∃ x, x = rPost r0 := ⟨_, rfl⟩
  rw [← hx1] at he hQ
  have HX1 := Lib.hid hx1.symm
  clear hx1
  subst he
  obtain ⟨a1, r1⟩ := x1
  simp only at hQ
  have hbr' := Blk.farCells (g := w.heap.size) (b := w.heap.size + 1) (by omega) a1.vals 2 _ (hQ.keeps hbr hne)
  have hbp0 := hQ.keeps hbp hne1
  have hbp' := hbp0.sets a1.vals _ 2
  rw [show setAt _ 2 a1.vals = (Wcc.mk (optOf a0) a1).vals from rfl] at hbp'
  have hq := hQ1.trans hQ
  have hQ' : ReadsF g r1 w (v1.setCells (w.heap.size + 1) 2 a1.vals) := ⟨hq.1.touch (Touch.setCells (F := fun i => i = w.heap.size + 1) (.inl rfl) _ 2 v1 (Touch.refl _ _)) (fun hh => hne1 hh.symm), Touch.setCells (.inr (by omega)) _ 2 v1 hq.2⟩
  obtain ⟨W1, hW1⟩ : ∃ W, W = v1.setCells (w.heap.size + 1) 2 a1.vals := ⟨_, rfl⟩
  rw [← hW1] at hbr' hbp' hQ'
  have HW1 := Lib.hid hW1
  clear hbr hbp hQ1 hQ hq hW1
  have hbr := hbr'
  have hbp := hbp'
  have hQ1 := hQ'
  clear hbr' hbp' hQ'
  go_upto_region 4 with (first | (refine wpList_store_part (by rfl) 27 _ _ (by rfl) (w.heap.size + 1) 2 a1.vals _ hbp0 (by simp [Wcc.len, Post.len]) (by rfl) (by rfl) (by kernel_rfl) (Post.one _) ?_; rw [← HW1.out]) | fail)
  clear hbp0
  have HX := Lib.hid (show rWcc r = (Wcc.mk (optOf a0) a1, r1) by unfold rWcc; rw [HX0.out]; simp only; rw [HX1.out])
  clear HX0 HX1 HW0
  obtain ⟨cv, hcv⟩ : ∃ c, c = Wcc.mk (optOf a0) a1 := ⟨_, rfl⟩
  rw [← hcv] at HX hbp
  clear hcv
  have hEc := ReadsF.err hQ1.1
  have rp : rowOf W1 (w.heap.size + 1) 0 13 = some cv.vals.toArray := hbp.row 0 13 (by simp [Wcc.len])
  by_cases hE : r1.e = 0
  · have hE' : (r1.e != 0) = false := by simpa using hE
    have HE := Lib.hid hE
    clear hE
    go_wp2_with fail
    refine (refWcc5_any cv _).mono ?_
    rintro e w7 ⟨rfl, hb⟩
    have hs := Stb.of hb
    have hlp := hbp.lt
    have hb7 := hbr.stays hb
    have hQ7 := hQ1.new hb
    clear hb hQ1
    cases ho : cv.ok
    · have HN := Lib.hid (show gotR Wcc.ok wccZ (cv, r1) = (wccZ, 14) by simp [gotR, HE.out, ho])
      have HQ := Lib.hid (ReadsF.lay (cs := wccZ.vals) hQ7 hb7 rfl hne (Nat.le_refl _))
      clear ho hQ7
      go_wp2_with (first | (refine wpList_store_whole (by rfl) 31 _ _ (by rfl) w.heap.size wccZ.vals _ hb7 (by rfl) (by rfl) (by rfl) (by kernel_rfl) (Wcc.one _) ?_) | fail)
      refine ret_cells2 w.heap.size 0 wccZ.vals (.int .i64 14) Tryz.results47 Tryz.underlying31 rfl (by kernel_rfl) rfl rfl HQ.out.2.range rfl ?_
      rw [HX.out, HN.out]
      exact ⟨rfl, HQ.out.1⟩
    · have HN := Lib.hid (show gotR Wcc.ok wccZ (cv, r1) = (cv, 0) by simp [gotR, HE.out, ho])
      have HQ := Lib.hid (ReadsF.lay (cs := cv.vals) hQ7 hb7 rfl hne (Nat.le_refl _))
      clear ho hQ7
      go_wp2_with (first | (refine wpList_store_whole (by rfl) 31 _ _ (by rfl) w.heap.size cv.vals _ hb7 (by rfl) (by rfl) (by rfl) (by kernel_rfl) (Wcc.one _) ?_) | fail)
      refine ret_cells2 w.heap.size 0 cv.vals (.int .i64 0) Tryz.results47 Tryz.underlying31 rfl (by kernel_rfl) rfl rfl HQ.out.2.range rfl ?_
      rw [HX.out, HN.out]
      exact ⟨rfl, HQ.out.1⟩
  · have hE' : (r1.e != 0) = true := by simpa using hE
    have HN := Lib.hid (show gotR Wcc.ok wccZ (cv, r1) = (wccZ, r1.e) by simp [gotR, hE])
    have hc := hbr.cell
    have hf := hbr.frozen
    have HQ := Lib.hid (ReadsF.lay (cs := wccZ.vals) hQ1 hbr rfl hne (Nat.le_refl _))
    clear hE hQ1
    go_wp2
    go_region
    change Exit.then _ _ _ _ ((W1.setCells w.heap.size 0 wccZ.vals).drew)
    go_wp2
    refine ret_cells2 w.heap.size 0 wccZ.vals (.int .i64 r1.e) Tryz.results47 Tryz.underlying31 rfl (by kernel_rfl) rfl rfl HQ.out.2.drew.range rfl ?_
    rw [HX.out, HN.out]
    exact ⟨rfl, HQ.out.1.drew⟩

end Go.Proofs.YtapcjojlkeaadaaGreatDoor
