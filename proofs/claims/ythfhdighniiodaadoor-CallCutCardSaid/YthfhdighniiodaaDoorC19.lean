/-
  Layer 5, walks: what was ahead and behind, and what is to be set, are got. Conditions: a reader at a block of its own; texts are machine texts.
-/
import Derived.Test.YthfhdighniiodaaDoorC18
import Derived.Test.YthfhdighniiodaaDoorC08
import Derived.Test.YthfhdighniiodaaDoorC14
namespace Go.Proofs.YthfhdighniiodaaDoor
open Go.RowKit
attribute [local go_sem ↓] Go.wp_at_zero Go.wp_at_succ
attribute [local go_sem] rowAt_ptr rowOf_drew rowOf_drewN rowOf_alloc_past rowOf_new
attribute [local go_sem ↓] ldAttrR ldOpt ldSet

attribute [local go_sem] Attr.at0 Attr.lat0 Attr.at1 Attr.lat1 Attr.at2 Attr.lat2 Attr.at3 Attr.lat3 Attr.at4 Attr.lat4 Attr.at5 Attr.lat5 Attr.at6 Attr.lat6 Attr.at7 Attr.lat7 Attr.at8 Attr.lat8 Attr.at9 Attr.lat9 Attr.sub0_10 Attr.lsub0_10 Attr.len Opt.at0 Opt.lat0 Opt.at1 Opt.lat1 Opt.sub0_2 Opt.lsub0_2 Opt.len Sett.at0 Sett.lat0 Sett.at1 Sett.lat1 Sett.at2 Sett.lat2 Sett.at3 Sett.lat3 Sett.at4 Sett.lat4 Sett.at5 Sett.lat5 Sett.at6 Sett.lat6 Sett.at7 Sett.lat7 Sett.at8 Sett.lat8 Sett.at9 Sett.lat9 Sett.sub0_10 Sett.lsub0_10 Sett.sub0_2 Sett.lsub0_2 Sett.sub2_2 Sett.lsub2_2 Sett.sub4_2 Sett.lsub4_2 Sett.sub6_2 Sett.lsub6_2 Sett.sub8_2 Sett.lsub8_2 Sett.len Post.at0 Post.lat0 Post.at1 Post.lat1 Post.at2 Post.lat2 Post.at3 Post.lat3 Post.at4 Post.lat4 Post.at5 Post.lat5 Post.at6 Post.lat6 Post.at7 Post.lat7 Post.at8 Post.lat8 Post.at9 Post.lat9 Post.at10 Post.lat10 Post.sub0_11 Post.lsub0_11 Post.sub1_10 Post.lsub1_10 Post.len Wcc.at0 Wcc.lat0 Wcc.at1 Wcc.lat1 Wcc.at2 Wcc.lat2 Wcc.at3 Wcc.lat3 Wcc.at4 Wcc.lat4 Wcc.at5 Wcc.lat5 Wcc.at6 Wcc.lat6 Wcc.at7 Wcc.lat7 Wcc.at8 Wcc.lat8 Wcc.at9 Wcc.lat9 Wcc.at10 Wcc.lat10 Wcc.at11 Wcc.lat11 Wcc.at12 Wcc.lat12 Wcc.sub0_13 Wcc.lsub0_13 Wcc.sub0_2 Wcc.lsub0_2 Wcc.sub2_11 Wcc.lsub2_11 Wcc.sub3_10 Wcc.lsub3_10 Wcc.len optV

theorem setAt_wcc (o : Opt) (p : Post) : setAt (Wcc.vals ⟨o, postZ⟩) 2 p.vals = Wcc.vals ⟨o, p⟩ := rfl
/-- the first k options are read -/
def setOpt (s : Sett) (o : Opt) : Nat → Sett
  | 0 => { s with mode := o }
  | 1 => { s with uid := o }
  | 2 => { s with gid := o }
  | 3 => { s with size := o }
  | _ => { s with time := o }
def settK : Nat → Rs → Sett × Rs
  | 0, r => (settZ, r)
  | k + 1, r => (setOpt (settK k r).1 (optOf (rOpt (settK k r).2).1) k, (rOpt (settK k r).2).2)
def rSett (r : Rs) : Sett × Rs := settK 5 r
theorem settK_step (r : Rs) {k : Nat} (hk : k < 5) : setAt (settK k r).1.vals (2 * k) (optV (rOpt (settK k r).2).1) = (settK (k + 1) r).1.vals ∧ (settK (k + 1) r).2 = (rOpt (settK k r).2).2 := by
  match k, hk with
  | 0, _ | 1, _ | 2, _ | 3, _ | 4, _ => exact ⟨rfl, rfl⟩
theorem settK_len (r : Rs) (k : Nat) (h : r.s.length ≤ 9223372036854775807) : (settK k r).2.s.length ≤ 9223372036854775807 := by
  induction k with
  | zero => exact h
  | succ k ih => exact Nat.le_trans (rOpt_len ih) ih
theorem rSett_good {r : Rs} (h : r.s.length ≤ 9223372036854775807) : (rSett r).1.good :=
  ⟨rOpt_good h, rOpt_good (settK_len r 1 h), rOpt_good (settK_len r 2 h), rOpt_good (settK_len r 3 h), rOpt_good (settK_len r 4 h)⟩

set_option maxRecDepth 20000 in
set_option maxHeartbeats 3200000 in
theorem getSett_any (g : Nat) (r : Rs) (w : World) (hR : Rd w g r) (hl : r.s.length ≤ 9223372036854775807) :
    Calls Tryd.prog 117 #[.pointer (some ⟨g, 0, none⟩)] w (Gave g (rSett r).2 (gotV (gotR Sett.ok settZ (rSett r)).1.vals (gotR Sett.ok settZ (rSett r)).2) w) := by
  obtain ⟨b0, b1, hB, hsz⟩ := chain2_blks w settZ.vals settZ.vals 55 55
  have hR1 := hR.stays hB
  have hne : w.heap.size ≠ g := Nat.ne_of_gt hR.lt
  have hne1 : w.heap.size + 1 ≠ g := by have := hR.lt; omega
  have hgl := hR.lt
  have hlk := fun k => settK_len r k hl
  have HL := Lib.hid hlk
  have HG := Lib.hid (rSett_good hl)
  clear hR hlk
  go_enter Tryd.func117, Tryd.ntmps117
  go_wp2_with fail
  change Calls _ _ _ ((w.alloc (.cells settZ.vals.toArray 55)).alloc (.cells settZ.vals.toArray 55)) _
  generalize (w.alloc (.cells settZ.vals.toArray 55)).alloc (.cells settZ.vals.toArray 55) = W0 at *
  refine (options_any _ _).mono ?_
  rintro e w1 ⟨h, rfl, hp, hb, hh⟩
  have hP0 : Blk w1 w.heap.size 55 settZ.vals := b0.stays hb
  have hP1 : Blk w1 (w.heap.size + 1) 55 (settK 0 r).1.vals := b1.stays hb
  have hQ : Reads g (settK 0 r).2 w w1 := Reads.behind (below_then hB hb) (Reads.refl (hR1.stays hb))
  clear hb b0 b1 hR1 hB
  go_wp2
  go_loopw [9] (fun i wr => ∃ k : Nat, k ≤ 5 ∧ i = .int .i64 k ∧ Reads g (settK k r).2 w wr ∧ Blk wr w.heap.size 55 settZ.vals ∧ Blk wr (w.heap.size + 1) 55 (settK k r).1.vals ∧ Blk wr h 157 (optPtrs (w.heap.size + 1))) (fun i _ => 5 - (intOf i).toNat)
  case atStart => exact ⟨0, by omega, rfl, hQ, hP0, hP1, hp⟩
  case round =>
    clear hQ hP0 hP1 hp
    obtain ⟨k, hk, rfl, hQ, hP0, hP1, hp⟩ := hrel
    by_cases hlt : k < 5
    · have hc := optPtr_at hp hlt
      go_wp2_with fail
      refine (rOpt_any g (settK k r).2 _ hQ.1 (HL.out k)).mono ?_
      rintro e w4 ⟨rfl, hQ4⟩
      have hp0 := hQ4.keeps hP0 hne
      have hp1 := hQ4.keeps hP1 hne1
      have hpp := hQ4.keeps hp (by omega)
      obtain ⟨e1, e2⟩ := settK_step r hlt
      have hs1 := hp1.sets (optV (rOpt (settK k r).2).1) _ (2 * k)
      rw [e1] at hs1
      have hs0 := Blk.farCells (g := w.heap.size) (b := w.heap.size + 1) (by omega) (optV (rOpt (settK k r).2).1) (2 * k) _ hp0
      have hsp := Blk.farCells (g := h) (b := w.heap.size + 1) (by omega) (optV (rOpt (settK k r).2).1) (2 * k) _ hpp
      have hq := hQ.trans hQ4
      have hsq : Reads g (settK (k + 1) r).2 w (w4.setCells (w.heap.size + 1) (2 * k) (optV (rOpt (settK k r).2).1)) := by
        rw [e2]
        exact ⟨hq.1.touch (Touch.setCells (F := fun i => i = w.heap.size + 1) (.inl rfl) _ (2 * k) w4 (Touch.refl _ _)) (fun hh => hne1 hh.symm), Touch.setCells (.inr (by omega)) _ (2 * k) w4 hq.2⟩
      obtain ⟨x, hx⟩ : ∃ x, x = (rOpt (settK k r).2).1 := ⟨_, rfl⟩
      rw [← hx] at hs1 hs0 hsp hsq ⊢
      have hlo : 2 * k + (optV x).length ≤ (settK k r).1.vals.length := by simp [optV, Sett.len]; omega
      have HS := Lib.hid (And.intro hsq (And.intro hs0 (And.intro hs1 hsp)))
      clear hs1 hs0 hsp hsq hx hq hp0 hpp hQ hQ4 hP0 hP1 hp hc e1 e2
      go_wp2_with (first | (refine wpList_store_part (by rfl) 53 _ _ (by rfl) (w.heap.size + 1) (2 * k) (optV x) _ hp1 hlo (by rfl) (by rfl) (by kernel_rfl) (optV_one _) ?_) | fail)
      go_roundw
      case rel => exact ⟨k + 1, by omega, by go_num, HS.out⟩
      case measure => simp [intOf]; omega
    · obtain rfl : k = 5 := by omega
      obtain ⟨x, hx⟩ : ∃ x, x = rSett r := ⟨_, rfl⟩
      have hQ5 : Reads g (rSett r).2 w wr := hQ
      have hP5 : Blk wr (w.heap.size + 1) 55 (rSett r).1.vals := hP1
      have hg := HG.out
      rw [← hx] at hQ5 hP5 hg
      have HX := Lib.hid hx
      have rs : rowOf wr (w.heap.size + 1) 0 10 = some x.1.vals.toArray := hP5.row 0 10 (by simp [Sett.len])
      clear hx hQ hP1 hp
      go_wp2_with fail
      refine (gotSett_any g x.2 x.1 _ hQ5.1 hg).mono ?_
      rintro e w5 ⟨he, hb⟩
      have hb5 := hP0.stays hb
      have hQ6 := hQ5.new hb
      obtain ⟨y, hy⟩ : ∃ y, y = gotR Sett.ok settZ (x.1, x.2) := ⟨_, rfl⟩
      rw [← hy] at he
      have HY := Lib.hid hy
      clear hy hb hP5 hQ5 rs hP0
      subst he
      unfold gotV
      obtain ⟨y1, y2⟩ := y
      have HQ := Lib.hid (Reads.lay (cs := y1.vals) hQ6 hb5 rfl hne (Nat.le_refl _))
      clear hQ6
      go_wp2_with (first | (refine wpList_store_whole (by rfl) 55 _ _ (by rfl) w.heap.size y1.vals _ hb5 (by rfl) (by rfl) (by rfl) (by kernel_rfl) (Sett.one _) ?_) | fail)
      refine ret_cells2 w.heap.size 0 y1.vals (.int .i64 y2) Tryd.results117 Tryd.underlying55 rfl (by kernel_rfl) rfl rfl HQ.out.2.range rfl ?_
      have h2 := HQ.out.1
      rw [HX.out] at h2 HY
      rw [← HY.out]
      exact ⟨rfl, h2⟩
end Go.Proofs.YthfhdighniiodaaDoor

/-
  Layer 1, walks: what strings.Trim leaves of a text whose noughts are cut off; a text, and what fills it up, are taken. Conditions: sizes.
-/
namespace Go.Proofs.YthfhdighniiodaaDoor
open Go.RowKit
attribute [local go_sem ↓] Go.wp_at_zero Go.wp_at_succ
attribute [local go_sem] rowAt_ptr rowOf_drew rowOf_drewN rowOf_alloc_past rowOf_new
attribute [local go_sem] bs_get

theorem last_at {l : List UInt8} {k : Nat} (hk : k < l.length) : (l.take (k + 1)).getLast? = some l[k] := by
  rw [List.take_succ_eq_append_getElem hk, List.getLast?_append]; simp
theorem drop_zeros {l : List UInt8} {k : Nat} (hk : k < l.length) (h0 : l[k] = 0) (h : ∀ x ∈ l.drop (k + 1), x = 0) : ∀ x ∈ l.drop k, x = 0 := by
  intro x hx
  rw [List.drop_eq_getElem_cons hk] at hx
  rcases List.mem_cons.1 hx with rfl | hx
  · exact h0
  · exact h x hx
def TrimR (l : List UInt8) (w : World) (e : Ending) (w' : World) : Prop := ∃ m z, e = .returned (.string (bs m)) ∧ l = m ++ z ∧ (∀ x ∈ z, x = 0) ∧ (∀ x, m.getLast? = some x → x ≠ 0) ∧ w = w'
def TrimL (l : List UInt8) (w : World) (e : Ending) (w' : World) : Prop := ∃ m z, e = .returned (.string (bs m)) ∧ l = z ++ m ∧ (∀ x ∈ z, x = 0) ∧ (∀ x, m.head? = some x → x ≠ 0) ∧ w = w'
def strLen : Value → Nat
  | .string b => b.size
  | _ => 0
theorem strLen_bs (l : List UInt8) : strLen (.string (bs l)) = l.length := rfl
set_option maxRecDepth 20000 in
set_option maxHeartbeats 800000 in
theorem trimRight_any (l : List UInt8) (w : World) (hl : l.length ≤ 9223372036854775807) :
    Calls Tryd.prog 141 #[.string (bs l), .int .u8 0] w (TrimR l w) := by
  go_enter Tryd.func141, Tryd.ntmps141
  go_wp2
  go_loop [0] (fun s => ∃ k : Nat, k ≤ l.length ∧ s = .string (bs (l.take k)) ∧ ∀ x ∈ l.drop k, x = 0) (fun s => strLen s)
  case atStart => exact ⟨l.length, Nat.le_refl _, by rw [List.take_length], by simp⟩
  case round =>
    obtain ⟨k, hk, rfl, hz⟩ := hrel
    have hsz : (bs (l.take k)).size = k := by rw [bs_size, List.length_take]; omega
    have HZ := Lib.hid hz
    clear hz
    match k, hk, hsz with
    | 0, hk, hsz =>
      go_wp2
      go_ret
      exact ⟨[], l, rfl, rfl, by simpa using HZ.out, by simp, rfl⟩
    | k + 1, hk, hsz =>
      have hlt : k < l.length := by omega
      have hb := l[k].toNat_lt
      have hlen : (l.take (k + 1)).length = k + 1 := by rw [List.length_take]; omega
      have hlen2 : (l.take k).length = k := by rw [List.length_take]; omega
      have htt : (l.take (k + 1)).take k = l.take k := by rw [List.take_take]; congr 1; omega
      have hk1 : (0 : Int) < ((k + 1 : Nat) : Int) := by omega
      have hidx : ((k + 1 : Nat) : Int) - 1 = (k : Int) := by omega
      by_cases h0 : l[k] = 0
      · have h1 : ((l[k].toNat : Int) == 0) = true := by rw [h0]; rfl
        have HS := Lib.hid (drop_zeros hlt h0 HZ.out)
        clear h0 HZ
        go_wp2
        go_round
        case rel => exact ⟨k, by omega, by rw [bs_take, htt], HS.out⟩
        case measure => rw [bs_take, htt, strLen_bs, strLen_bs, hlen, hlen2]; omega
      · have h1 : ((l[k].toNat : Int) == 0) = false := by
          rw [beq_eq_false_iff_ne]; intro e; apply h0; apply UInt8.toNat_inj.1; simpa using e
        have HS := Lib.hid (show ∀ x, (l.take (k + 1)).getLast? = some x → x ≠ 0 from fun x hx => by
          rw [last_at hlt] at hx; injection hx with hx; subst hx; exact h0)
        clear h0
        go_wp2
        go_ret
        exact ⟨l.take (k + 1), l.drop (k + 1), rfl, (List.take_append_drop _ _).symm, HZ.out, HS.out, rfl⟩

theorem take_zeros {l : List UInt8} {k : Nat} (hk : k < l.length) (h0 : l[k] = 0) (h : ∀ x ∈ l.take k, x = 0) : ∀ x ∈ l.take (k + 1), x = 0 := by
  intro x hx
  rw [List.take_succ_eq_append_getElem hk] at hx
  rcases List.mem_append.1 hx with hx | hx
  · exact h x hx
  · simp at hx; subst hx; exact h0
set_option maxRecDepth 20000 in
set_option maxHeartbeats 800000 in
theorem trimLeft_any (l : List UInt8) (w : World) (hl : l.length ≤ 9223372036854775807) :
    Calls Tryd.prog 140 #[.string (bs l), .int .u8 0] w (TrimL l w) := by
  go_enter Tryd.func140, Tryd.ntmps140
  go_wp2
  go_loop [0] (fun s => ∃ k : Nat, k ≤ l.length ∧ s = .string (bs (l.drop k)) ∧ ∀ x ∈ l.take k, x = 0) (fun s => strLen s)
  case atStart => exact ⟨0, Nat.zero_le _, rfl, by simp⟩
  case round =>
    obtain ⟨k, hk, rfl, hz⟩ := hrel
    have HZ := Lib.hid hz
    clear hz
    by_cases hlt : k < l.length
    · have hb := l[k].toNat_lt
      have hdr : l.drop k = l[k] :: l.drop (k + 1) := List.drop_eq_getElem_cons hlt
      have hlen2 : (l.drop (k + 1)).length = l.length - (k + 1) := List.length_drop
      have hlen : (l[k] :: l.drop (k + 1)).length = l.length - k := by rw [List.length_cons, hlen2]; omega
      have hsz : (bs (l[k] :: l.drop (k + 1))).size = l.length - k := hlen
      have hpos : (0 : Int) < ((l.length - k : Nat) : Int) := by omega
      have hbig : ((l.length - k : Nat) : Int) ≤ 9223372036854775807 := by omega
      have HD := Lib.hid hdr
      rw [hdr]
      by_cases h0 : l[k] = 0
      · have h1 : ((l[k].toNat : Int) == 0) = true := by rw [h0]; rfl
        have HS := Lib.hid (take_zeros hlt h0 HZ.out)
        clear h0 HZ hdr
        have hcut : (bs (l.drop k)).extract 1 (l.length - k) = bs (l.drop (k + 1)) := by
          have := bs_drop (l.drop k) 1
          rw [List.length_drop, List.drop_drop] at this
          exact this
        have HC := Lib.hid hcut
        clear hcut
        go_wp2
        go_round
        case rel => exact ⟨k + 1, by omega, by rw [HC.out], HS.out⟩
        case measure => rw [HC.out, strLen_bs, strLen_bs, hlen, hlen2]; omega
      · have h1 : ((l[k].toNat : Int) == 0) = false := by
          rw [beq_eq_false_iff_ne]; intro e; apply h0; apply UInt8.toNat_inj.1; simpa using e
        have HS := Lib.hid (show ∀ x, (l.drop k).head? = some x → x ≠ 0 from fun x hx => by
          rw [hdr] at hx; simp only [List.head?_cons, Option.some.injEq] at hx; exact fun e => h0 (hx.trans e))
        clear h0 hdr
        go_wp2
        go_ret
        exact ⟨l.drop k, l.take k, rfl, (List.take_append_drop _ _).symm, HZ.out, HS.out, rfl⟩
    · have hdr : l.drop k = [] := List.drop_of_length_le (by omega)
      have htk : l.take k = l := List.take_of_length_le (by omega)
      rw [htk] at HZ
      rw [hdr]
      clear htk hdr hlt
      go_wp2
      go_ret
      exact ⟨[], l, rfl, by simp, HZ.out, by simp, rfl⟩

def Trimmed (l : List UInt8) (w : World) (e : Ending) (w' : World) : Prop := ∃ m, e = .returned (.string (bs m)) ∧ (m = [] ↔ l.all (· == 0) = true) ∧ Below w.heap.size w w'
theorem trimmed_iff {l m m1 z1 z2 : List UInt8} (h1 : l = m1 ++ z1) (h2 : m1 = z2 ++ m) (hz1 : ∀ x ∈ z1, x = 0) (hz2 : ∀ x ∈ z2, x = 0) (hm : ∀ x, m.head? = some x → x ≠ 0) : m = [] ↔ l.all (· == 0) = true := by
  subst h1 h2
  rw [List.all_eq_true]
  constructor
  · rintro rfl
    intro x hx
    simp only [List.append_nil, List.mem_append] at hx
    rcases hx with hx | hx
    · simpa using hz2 x hx
    · simpa using hz1 x hx
  · intro h
    cases m with
    | nil => rfl
    | cons a m =>
      have := h a (by simp)
      exact absurd (by simpa using this) (hm a rfl)
set_option maxRecDepth 20000 in
set_option maxHeartbeats 800000 in
theorem trim_any (l : List UInt8) (w : World) (hl : l.length ≤ 9223372036854775807) :
    Calls Tryd.prog 138 #[.string (bs l), .string (bs [0])] w (Trimmed l w) := by
  cases l with
  | nil =>
    go_enter Tryd.func138, Tryd.ntmps138
    go_wp2
    go_ret
    exact ⟨[], rfl, by simp, Below.refl _ _⟩
  | cons a t =>
    have hlen : (a :: t).length = t.length + 1 := rfl
    go_enter Tryd.func138, Tryd.ntmps138
    go_wp2_with fail
    have HL := Lib.hid hl
    generalize a :: t = l at *
    go_region_held3 (fun W => Stb w W) (first | exact Stb.start | assumption) (first
      | (go_at_call 141; refine (trimRight_any l _ HL.out).mono ?_; rintro e w' ⟨m1, z1, rfl, h1, hz1, hm1, rfl⟩; have H1 := Lib.hid h1; clear h1)
      | (go_at_call 140; refine (trimLeft_any m1 _ (by have h := HL.out; rw [H1.out, List.length_append] at h; omega)).mono ?_; rintro e w' ⟨m, z2, rfl, h2, hz2, hm, rfl⟩; have H2 := Lib.hid h2; clear h2))
    all_goals
      have HI := Lib.hid (trimmed_iff H1.out H2.out hz1 hz2 hm)
      clear hz1 hz2 hm hm1 H1 H2
      go_wp2
      go_ret
      exact ⟨m, rfl, HI.out, (Below.refl _ _).drew⟩
end Go.Proofs.YthfhdighniiodaaDoor
