/-
  Layer 33, walks: a record is put behind a client's records. Condition: at most a million records.
-/
import Derived.Test.YtfjflkmhhbhceaaGreatDoorK42
import Derived.Test.YtfjflkmhhbhceaaGreatDoorK41
import Derived.Test.YtfjflkmhhbhceaaGreatDoorK37
namespace Go.Proofs.YtfjflkmhhbhceaaGreatDoor
open Go.RowKit
theorem repZ_at (w : World) (F : Nat → Prop) : RepAt w F replyZ repD0 :=
  ⟨rfl, RowS.none_, RowS.none_, fun k hk => (by cases hk), fun k hk => (by cases hk), Nat.zero_le _, Nat.zero_le _⟩
theorem recds_len (l : List Recd) : ∀ r ∈ l.map Recd.vals, r.length = 88 := by
  intro r hr
  obtain ⟨q, _, rfl⟩ := List.mem_map.1 hr
  rfl
/-- what 'append(c.records, ..)' gives, and the store behind it -/
theorem ClAt.more {F : Nat → Prop} {w : World} {g : Nat} {c : ClD} {z : Clnt} {l : List Recd} (hC : ClAt F w g c z l) (r : Recd) (rd : RecdD) (h1 : r.cred = rd.cred) (h2 : r.begin_ = rd.beg) (h3 : r.end_ = rd.fin) (h4 : r.call = rd.call) (h5 : r.reply = replyZ) (h6 : rd.rep = repD0) (hn : c.recs.length ≤ 1000000) :
    ∃ v' w', (Builtin.append_ #[60, 60] 60 #[.slice z.ra z.rn z.rc, .slice (some ⟨w.heap.size, 0, none⟩) 1 1]).run Tryz.prog (w.alloc (.cells r.vals.toArray 65)) = .ok v' w' ∧
      ∃ A n cc, v' = .slice A n cc ∧ w'.cell? ⟨g, 55, none⟩ = some (.slice z.ra z.rn z.rc) ∧ w'.frozen? ⟨g, 55, none⟩ = false ∧
        ClAt (fun k => F k ∨ (w.heap.size ≤ k ∧ k < w'.heap.size)) (w'.setCell ⟨g, 55, none⟩ (.slice A n cc)) g { c with recs := c.recs ++ [rd] } { z with ra := A, rn := n, rc := cc } (l ++ [r]) ∧ Touch F w (w'.setCell ⟨g, 55, none⟩ (.slice A n cc)) ∧
        (∀ b T cs, Blk w b T cs → T ≠ 65 → T ≠ 93 → Blk w' b T cs ∧ Blk (w'.setCell ⟨g, 55, none⟩ (.slice A n cc)) b T cs) := by
  have hb : Below w.heap.size w (w.alloc (.cells r.vals.toArray 65)) := (Below.refl _ _).alloc (Nat.le_refl _) _
  have hblk := Blk.new w 65 r.vals
  have hsz : (w.alloc (.cells r.vals.toArray 65)).heap.size = w.heap.size + 1 := by simp
  generalize w.alloc (.cells r.vals.toArray 65) = w3 at *
  have hC3 := hC.below hb
  have hll : l.length ≤ 1000000 := by rw [hC.rcs.len]; exact hn
  have hfl : ([r].map Recd.vals).flatten = r.vals := by simp
  obtain ⟨v', w', hrun, hR, hgr, hat⟩ := RowS.appendAt (k := 1) (ty := 60) (news := [r].map Recd.vals) Tryz.underlying60 infoRecd33 rfl (by decide) (by decide) hC3.rcs.row (Nat.zero_le _) (by rw [hfl]; exact hblk) (recds_len _) (fun q hq u hu => by obtain ⟨y, _, rfl⟩ := List.mem_map.1 hq; exact Recd.one y u hu) (by rw [List.length_map, List.length_map]; show l.length + 1 ≤ _; omega) rfl 1
  refine ⟨v', w', hrun, ?_⟩
  obtain ⟨A, cc, hv, -⟩ := hR.at_
  refine ⟨A, _, cc, hv, ?_⟩
  rw [hv] at hR hat
  generalize (List.map Recd.vals l ++ List.map Recd.vals [r]).length = n at *
  have htr : Touch (fun k => (Value.slice z.ra z.rn z.rc).ownBlock = some k) w3 w' := Touch.of_grown hgr fun k hk => hk
  have hty := own_ty hC3.rcs.row.2
  have hT : Touch (TyIn w3 [65]) w3 w' := htr.mono fun k _ hv => by
    obtain ⟨C, hC⟩ := hty k hv
    exact ⟨C, _, _, hC, by decide⟩
  have hng : (Value.slice z.ra z.rn z.rc).ownBlock ≠ some g := Blk.own_ne hC3.rcs.row.2 hC3.blk (by decide)
  have hbg : Blk w' g 93 z.vals := hC3.blk.touch htr hng
  have hpt := hC3.pts.tou (hT.less (by decide))
  have hgs : ∀ k, F k → k < w.heap.size := hC.lt
  have hkeep33 : ∀ b T cs, Blk w b T cs → T ≠ 65 → T ≠ 93 → Blk w' b T cs ∧ Blk (w'.setCell ⟨g, 55, none⟩ (.slice A n cc)) b T cs := by
    intro b T cs h0 h1 h2
    have h3 := (h0.stays hb).touch htr fun e => by
      obtain ⟨C, hC⟩ := hty b e
      have h4 : w3.heap[b]? = some (.cells cs.toArray T (0, 0)) := h0.stays hb
      rw [h4] at hC
      injection hC with hC
      injection hC with _ hC
      exact h1 hC
    exact ⟨h3, h3.far (p := ⟨g, 55, none⟩) (h3.ne_ hbg h2) _⟩
  refine ⟨hbg.cell 55, hbg.frozen 55, ?_, ?_, hkeep33⟩
  · have ht2 : Touch (fun k => k = g) w' (w'.setCell ⟨g, 55, none⟩ (.slice A n cc)) := (Touch.refl (fun k => k = g) w').setCell (p := ⟨g, 55, none⟩) (.inl rfl) _
    have hbs := hbg.set_ 55 (.slice A n cc)
    rw [clnt_set55] at hbs
    have hs2 : (w'.setCell ⟨g, 55, none⟩ (.slice A n cc)).heap.size = w'.heap.size := by simp [World.setCell]
    have hty2 : Touch (TyIn w' [93]) w' (w'.setCell ⟨g, 55, none⟩ (.slice A n cc)) := ht2.mono fun k _ hk => by subst hk; exact tyIn_of hbg (by decide)
    have hrep : ∀ x d, RepAt w3 F x d → RepAt (w'.setCell ⟨g, 55, none⟩ (.slice A n cc)) F x d := fun x d h => (h.tou (hT.less (by decide))).tou (hty2.less (by decide))
    have hi := hC.is
    have hwl : w3.heap.size ≤ w'.heap.size := htr.size
    refine ⟨hbs, ⟨hi.id, hi.self, hi.server, hi.ps, hi.now, hi.busy, hi.sent, hi.due, hi.made⟩, (hpt.tou (hty2.less (by decide))).mono fun k hk => .inl hk, ⟨?_, ?_, ?_, ?_⟩, .inl hC.fg, ?_⟩
    · rw [List.map_append]
      exact hR.tou hty2 (by decide)
    · intro k hk
      rcases hat with h | h
      · exact .inl (hC.rcs.own k (by rw [← h]; exact hk))
      · rw [h] at hk
        have : w3.heap.size = k := by injection hk
        have hlk := (hR.lt k (by rw [h]; exact hk)).2
        exact .inr ⟨by omega, hlk⟩
    · rw [List.length_append, List.length_append, hC.rcs.len]
      rfl
    · intro i h1' h2'
      rw [List.length_append] at h1' h2'
      rcases Nat.lt_or_ge i l.length with hlt | hge
      · have hlt2 : i < c.recs.length := by rw [← hC.rcs.len]; exact hlt
        have e := hC3.rcs.each i hlt hlt2
        simp only [List.getElem_append_left hlt, List.getElem_append_left hlt2]
        exact (⟨e.cred, e.beg, e.fin, e.call, hrep _ _ e.rep⟩ : RecIs _ F _ _).mono fun k hk => .inl hk
      · have hge2 : c.recs.length ≤ i := by rw [← hC.rcs.len]; exact hge
        simp only [List.length_singleton] at h1' h2'
        simp only [List.getElem_append_right hge, List.getElem_append_right hge2, List.getElem_singleton]
        exact ⟨h1, h2, h3, h4, by rw [h5, h6]; exact repZ_at _ _⟩
    · intro k hk
      rw [hs2]
      rcases hk with hk | hk
      · have := hgs k hk; omega
      · exact hk.2
  · have h0 : Touch F w w' := (Touch.of_below hb F).then_ (htr.mono fun k _ hk => hC.rcs.own k hk)
    exact h0.setCell (p := ⟨g, 55, none⟩) (.inl hC.fg) _
theorem cPut_short (x : Call) : (cPut x).1.length ≤ maxLen := by
  unfold cPut
  split
  · next h =>
    have h1 := cLaid_len x (cFields x.proc) (cCheck_fine h) (fun k hk => cFields_letter x.proc hk) _ (Nat.le_refl _)
    have h2 : (cFields x.proc).length ≤ 100 := by
      rcases cFields_cases x.proc with hlo | hhi | e | e | e | e | e | e | e | e | e | e | e | e | e | e | e | e | e | e | e | e | e | e
      · rw [cFields_low hlo]; decide
      · rw [cFields_high hhi]; decide
      all_goals (rw [e]; decide)
    show (cLaid x (cFields x.proc) (cFields x.proc).length).length ≤ maxLen
    unfold maxLen
    omega
  · exact Nat.zero_le _
end Go.Proofs.YtfjflkmhhbhceaaGreatDoor

/-
  A record is built out of a cred, a number and a call, as a rule of the walk's own simp. No condition.
-/
namespace Go.Proofs.YtfjflkmhhbhceaaGreatDoor
open Go.RowKit
def aggN33 (n : Nat) : Value → Bool
  | .agg cs => decide (cs.toList.length = n)
  | _ => false
def intV33 : Value → Bool
  | .int .i64 _ => true
  | _ => false
def zerosR33 : List Value := [.int .i64 0, .string ⟨#[]⟩, .bool false, .int .i64 0, .int .i64 0, .int .i64 0, .int .i64 0, .int .i64 0, .int .i64 0, .int .i64 0, .int .i64 0, .int .i64 0, .int .i64 0, .bool false, .int .i64 0, .int .i64 0, .int .i64 0, .int .i64 0, .int .i64 0, .int .i64 0, .int .i64 0, .int .i64 0, .int .i64 0, .int .i64 0, .bool false, .int .i64 0, .bool false, .int .i64 0, .int .i64 0, .int .i64 0, .int .i64 0, .int .i64 0, .int .i64 0, .int .i64 0, .int .i64 0, .int .i64 0, .int .i64 0, .bool false, .int .i64 0, .bool false, .int .i64 0, .int .i64 0, .int .i64 0, .int .i64 0, .int .i64 0, .int .i64 0, .int .i64 0, .int .i64 0, .int .i64 0, .int .i64 0, .int .i64 0, .int .i64 0, .bool false, .string ⟨#[]⟩, .int .i64 0, .int .i64 0, .slice none 0 0, .slice none 0 0]
theorem runRecd33 (a0 a1 a2 a3 c0 c1 c2 c3 c4 c5 c6 c7 c8 c9 c10 c11 c12 c13 c14 c15 c16 c17 c18 c19 c20 c21 c22 c23 : Value) (s : Int) (w : World) : (Instr.build 65 #[(0, .agg #[a0, a1, a2, a3]), (1, .int .i64 s), (3, .agg #[c0, c1, c2, c3, c4, c5, c6, c7, c8, c9, c10, c11, c12, c13, c14, c15, c16, c17, c18, c19, c20, c21, c22, c23])]).run Tryz.prog w = .ok (.agg ([a0, a1, a2, a3] ++ ([Value.int .i64 s, Value.int .i64 0] ++ ([c0, c1, c2, c3, c4, c5, c6, c7, c8, c9, c10, c11, c12, c13, c14, c15, c16, c17, c18, c19, c20, c21, c22, c23] ++ zerosR33))).toArray) w := by kernel_rfl
theorem list4 {α : Type} : ∀ (l : List α), l.length = 4 → ∃ a0 a1 a2 a3, l = [a0, a1, a2, a3]
  | [a0, a1, a2, a3], _ => ⟨a0, a1, a2, a3, rfl⟩
theorem list24 {α : Type} : ∀ (l : List α), l.length = 24 → ∃ c0 c1 c2 c3 c4 c5 c6 c7 c8 c9 c10 c11 c12 c13 c14 c15 c16 c17 c18 c19 c20 c21 c22 c23, l = [c0, c1, c2, c3, c4, c5, c6, c7, c8, c9, c10, c11, c12, c13, c14, c15, c16, c17, c18, c19, c20, c21, c22, c23]
  | [c0, c1, c2, c3, c4, c5, c6, c7, c8, c9, c10, c11, c12, c13, c14, c15, c16, c17, c18, c19, c20, c21, c22, c23], _ => ⟨c0, c1, c2, c3, c4, c5, c6, c7, c8, c9, c10, c11, c12, c13, c14, c15, c16, c17, c18, c19, c20, c21, c22, c23, rfl⟩
theorem exRecd33 {ρ : Operand → Value} {w : World} {dst : Option Tmp} {ty : TypeId} {pos : String} {after : Array Edge} {g : Option (Nat × Bool)} {a b c : Operand} (h1 : aggN33 4 (ρ a) = true) (h2 : intV33 (ρ b) = true) (h3 : aggN33 24 (ρ c) = true) :
    (execOp ρ ⟨dst, .build 65 #[(0, a), (1, b), (3, c)], ty, pos, after, g⟩).run Tryz.prog w = .ok (.value (.agg (cellsOf (ρ a) ++ ([ρ b, Value.int .i64 0] ++ (cellsOf (ρ c) ++ zerosR33))).toArray)) w := by
  unfold execOp
  simp only [List.map_toArray, List.map_cons, List.map_nil]
  generalize ρ a = A at *
  generalize ρ b = B at *
  generalize ρ c = C at *
  unfold aggN33 at h1 h3
  unfold intV33 at h2
  split at h1
  · split at h2
    · split at h3
      · rename_i _ cs _ n _ ds
        simp only [decide_eq_true_eq] at h1 h3
        obtain ⟨l, rfl⟩ : ∃ l : List Value, cs = l.toArray := ⟨cs.toList, by simp⟩
        obtain ⟨m, rfl⟩ : ∃ l : List Value, ds = l.toArray := ⟨ds.toList, by simp⟩
        obtain ⟨a0, a1, a2, a3, rfl⟩ := list4 l h1
        obtain ⟨c0, c1, c2, c3, c4, c5, c6, c7, c8, c9, c10, c11, c12, c13, c14, c15, c16, c17, c18, c19, c20, c21, c22, c23, rfl⟩ := list24 m h3
        rw [Sem.run_bind, runRecd33]
        rfl
      · cases h3
    · cases h2
  · cases h1
end Go.Proofs.YtfjflkmhhbhceaaGreatDoor


/-
  Layer 33, walks: a client whose parts are new; parts that are told whose they are, one by one. No condition.
-/
namespace Go.Proofs.YtfjflkmhhbhceaaGreatDoor
open Go.RowKit
theorem RowS.fits {w : World} {B : Nat} {e : TypeId} {sz n c : Nat} {A : Option Addr} {rows : List (List Value)} (h : RowS w B e sz (.slice A n c) rows) : n ≤ c := by
  rcases h.2.2 with ⟨h1, h2⟩ | ⟨g, cap, cur, h1, _, _, h4, _⟩
  · injection h1 with _ h3 _
    omega
  · injection h1 with _ h3 h5
    omega
theorem RowS.lenOf {w : World} {B : Nat} {e : TypeId} {sz n c : Nat} {A : Option Addr} {rows : List (List Value)} (h : RowS w B e sz (.slice A n c) rows) : n = rows.length := by
  obtain ⟨A', c', hv, -⟩ := h.at_
  injection hv
theorem ClAt.partsNew {F : Nat → Prop} {w w4 wr : World} {g : Nat} {c1 : ClD} {z4 : Clnt} {l : List Recd} {A : Option Addr} {n cap B : Nat} {ps qs : List CPart} (hC : ClAt F w4 g c1 z4 l) (hF : ∀ k, F k → k < w.heap.size) (h4 : Touch (fun k => k = g) w w4) (hB : w.heap.size ≤ B) (hR0 : RowS w4 B 91 29 (.slice A n cap) (qs.map CPart.vals)) (hR : RowS wr B 91 29 (.slice A n cap) (ps.map CPart.vals))
    (hT : Touch (fun k => (Value.slice A n cap).ownBlock = some k) (w4.setCell ⟨g, 19, none⟩ (.slice A n cap)) wr) :
    ClAt (fun k => F k ∨ (w.heap.size ≤ k ∧ k < wr.heap.size)) wr g { c1 with parts := ps } { z4 with ta := A, tn := n, tc := cap } l ∧ Touch F w wr := by
  have hown : ∀ k, (Value.slice A n cap).ownBlock = some k → w.heap.size ≤ k ∧ k < wr.heap.size := fun k hk => ⟨Nat.le_trans hB (hR.lt k hk).1, (hR.lt k hk).2⟩
  have hown0 : ∀ k, (Value.slice A n cap).ownBlock = some k → k < w4.heap.size := fun k hk => (hR0.lt k hk).2
  have hgF := hF g hC.fg
  have ht1 : Touch (fun k => k = g) w4 (w4.setCell ⟨g, 19, none⟩ (.slice A n cap)) := (Touch.refl (fun k => k = g) w4).setCell (p := ⟨g, 19, none⟩) (.inl rfl) _
  have hb1 := hC.blk.set_ 19 (.slice A n cap)
  rw [clnt_set19] at hb1
  have hty : Touch (TyIn w4 [93]) w4 (w4.setCell ⟨g, 19, none⟩ (.slice A n cap)) := ht1.mono fun k _ hk => by subst hk; exact tyIn_of hC.blk (by decide)
  have hr1 := hC.rcs.tou (hty.less (by decide))
  have hoF : ∀ k, F k → ¬ (Value.slice A n cap).ownBlock = some k := fun k hk e => by have := hF k hk; have := (hown k e).1; omega
  have hr2 := hr1.away hT hoF
  have hb2 := hb1.touch hT (hoF g hC.fg)
  have hi := hC.is
  have hs1 := ht1.size
  have hs2 := hT.size
  refine ⟨⟨hb2, ⟨hi.id, hi.self, hi.server, hi.ps, hi.now, hi.busy, hi.sent, hi.due, hi.made⟩, ⟨?_, hR.fits, hR.rows, fun p hp => ?_⟩, hr2.mono fun k hk => .inl hk, .inl hC.fg, fun k hk => ?_⟩, ?_⟩
  · have := hR.lenOf
    rw [List.length_map] at this
    exact this
  · have ho : (Value.slice A n cap).ownBlock = some p.block := by rw [show A = some p from hp]; rfl
    exact ⟨.inr (hown _ ho), own_ty hR.2 _ ho⟩
  · rcases hk with hk | hk
    · have := hC.lt k hk; omega
    · exact hk.2
  · have h5 : Touch F w w4 := h4.mono fun k _ hk => by subst hk; exact hC.fg
    have h6 : Touch F w (w4.setCell ⟨g, 19, none⟩ (.slice A n cap)) := h5.setCell (p := ⟨g, 19, none⟩) (.inl hC.fg) _
    exact h6.trans hT fun i hi hk => absurd (hown i hk).1 (by omega)
def whoP (a : Ask) (p : CPart) : CPart := { p with uid := a.uid, gid := a.gid }
def updP (a : Ask) (k : Nat) (ps : List CPart) : List CPart := (ps.take k).map (whoP a) ++ ps.drop k
theorem updP_zero (a : Ask) (ps : List CPart) : updP a 0 ps = ps := rfl
theorem updP_all (a : Ask) (ps : List CPart) {k : Nat} (hk : ps.length ≤ k) : updP a k ps = ps.map (whoP a) := by
  unfold updP
  rw [List.take_of_length_le hk, List.drop_eq_nil_of_le hk, List.append_nil]
theorem updP_len (a : Ask) (k : Nat) (ps : List CPart) : (updP a k ps).length = ps.length := by
  unfold updP
  rw [List.length_append, List.length_map, List.length_take, List.length_drop]
  omega
theorem updP_parts (a : Ask) {k : Nat} {ps : List CPart} (hk : k < ps.length) : ∃ pre post, pre.length = k ∧ updP a k ps = pre ++ ps[k] :: post ∧ updP a (k + 1) ps = pre ++ whoP a ps[k] :: post := by
  refine ⟨(ps.take k).map (whoP a), ps.drop (k + 1), by simp; omega, ?_, ?_⟩
  · unfold updP
    rw [List.drop_eq_getElem_cons hk]
  · unfold updP
    rw [List.take_add_one, List.getElem?_eq_getElem hk, List.map_append]
    simp
theorem RowS.putWho {W : World} {B b n c : Nat} {pre post : List CPart} {x : CPart} (a : Ask) (h : RowS W B 91 29 (.slice (some ⟨b, 0, none⟩) n c) ((pre ++ x :: post).map CPart.vals)) :
    RowS ((W.setCell ⟨b, pre.length * 29 + 27, none⟩ (.int .i64 a.uid)).setCell ⟨b, pre.length * 29 + 28, none⟩ (.int .i64 a.gid)) B 91 29 (.slice (some ⟨b, 0, none⟩) n c) ((pre ++ whoP a x :: post).map CPart.vals) := by
  have hn := h.lenOf
  rw [List.map_append, List.map_cons] at h hn ⊢
  have hx : x.vals = (x.c.vals ++ [.int .i64 x.dir, .int .i64 x.to_, .int .i64 x.put]) ++ ([.int .i64 x.uid, .int .i64 x.gid] ++ []) := by
    unfold CPart.vals; simp
  rw [hx] at h hn
  have := RowS.putMid (r := [.int .i64 a.uid, .int .i64 a.gid]) h rfl hn
  rw [List.length_map] at this
  have hl : (x.c.vals ++ [Value.int .i64 x.dir, .int .i64 x.to_, .int .i64 x.put]).length = 27 := rfl
  rw [hl] at this
  have hy : (whoP a x).vals = (x.c.vals ++ [.int .i64 x.dir, .int .i64 x.to_, .int .i64 x.put]) ++ ([.int .i64 a.uid, .int .i64 a.gid] ++ []) := by
    unfold CPart.vals whoP; simp
  rw [hy]
  exact this
end Go.Proofs.YtfjflkmhhbhceaaGreatDoor


/-
  Layer 33, walks: the calls that are to be made (printed by wip/tools/genplan33.py). Condition: what is asked lies within its bounds.
-/
namespace Go.Proofs.YtfjflkmhhbhceaaGreatDoor
open Go.RowKit
attribute [local go_sem ↓] Go.wp_at_zero Go.wp_at_succ
attribute [local go_sem] rowAt_ptr rowOf_drew rowOf_drewN rowOf_alloc_past rowOf_new
attribute [local go_sem ↓] st33Part st33Call ld33Part ld33Call ld33Ask exSlPart1 exSlPart3

attribute [local go_sem] thereB_drew thereB_drewN thereB_new thereB_past putsW_drew putsW_new putsW_past rowOf_far rowOf_putsFar cell_putsFar putsW_size ptrAt blkAt offAt allV33 oneV33 cellsOf_agg

attribute [local go_sem low] rowV33_agg

attribute [local go_sem] Call.len CPart.len rowV33_call rowV33_part

set_option maxRecDepth 20000 in
set_option maxHeartbeats 1600000 in
theorem plan33_24 (F : Nat → Prop) (w : World) (g : Nat) (c : ClD) (z : Clnt) (l : List Recd) (hC : ClAt F w g c z l) (hF : ∀ k, F k → k < w.heap.size) (a : Ask) (x : Call) (n : Nat) (hv : a.var = n) (hn : n < 4) (hk : a.kind = 2 ∨ a.kind = 4) :
    Calls Tryz.prog 37 #[.pointer (some ⟨g, 0, none⟩), .agg a.vals.toArray, .agg x.vals.toArray] w (PlanP F g (c.plan a x).1 l (c.plan a x).2 w) := by
  have hgl := hC.blk.lt
  obtain ⟨bA, bX, hB, hs⟩ := chain2_blks w a.vals x.vals 38 36
  obtain ⟨w1, hw1⟩ : ∃ V, V = (w.alloc (.cells a.vals.toArray 38)).alloc (.cells x.vals.toArray 36) := ⟨_, rfl⟩
  rw [← hw1] at bA bX hB hs
  have HW := Lib.hid hw1
  clear hw1
  have HQ := Lib.hid (show c.plan a x = ((c.ahead n).1, (c.ahead n).2 ++ [⟨x, n, 0, -1, 0, 0⟩]) by unfold ClD.plan; rw [if_neg (by omega), if_neg (by omega), if_neg (by omega), hv])
  have c0 : w1.cell? ⟨w.heap.size, 0, none⟩ = some (.int .i64 a.kind) := bA.cell 0
  have c1 : w1.cell? ⟨w.heap.size, 1, none⟩ = some (.int .i64 n) := by rw [bA.cell 1, ← hv]; rfl
  have c2 : w1.cell? ⟨w.heap.size, 2, none⟩ = some (.int .i64 a.dir) := bA.cell 2
  have c3 : w1.cell? ⟨w.heap.size, 3, none⟩ = some (.int .i64 a.to_) := bA.cell 3
  have x0 : w1.cell? ⟨w.heap.size + 1, 0, none⟩ = some (.int .i64 x.proc) := bX.cell 0
  have rX : rowOf w1 (w.heap.size + 1) 0 24 = some x.vals.toArray := bX.row 0 24 (by rw [Call.len]; omega)
  have k1 : (a.kind == 1) = false := by rcases hk with h | h <;> rw [h] <;> rfl
  have k3 : (a.kind == 3) = false := by rcases hk with h | h <;> rw [h] <;> rfl
  have k5 : (a.kind == 5) = false := by rcases hk with h | h <;> rw [h] <;> rfl
  have hl0 := bA.lt
  have hl1 := bX.lt
  have n0 : w.heap.size ≠ g := by omega
  have n1 : w.heap.size + 1 ≠ g := by omega
  have KA := Lib.hid (fun (W : World) (h : Below w1.heap.size w1 W) => ahead33_any F W g c z l ((hC.below hB).below h) n hn)
  have HB := Lib.hid hB
  have HF := Lib.hid hF
  have HC := Lib.hid (hC.below hB)
  have HD := Lib.hid (show Below w1.heap.size w1 w1.drew from (Below.refl _ _).drew)
  have HDa := Lib.hid (fun (o : Obj) => show Below w1.heap.size w1 (w1.drew.alloc o) from (Below.refl _ _).drew.alloc (Nat.le_refl _) o)
  have nB := Lib.hid (show w1.heap.size ≠ g by omega)
  have hbx := Lib.hid (And.intro bA bX)
  generalize a.kind = kk at *
  clear hs hB bA bX hC hv hF hk
  obtain ⟨xp, xf, xn, xg, xm, xo, xc, xh, xd, ⟨⟨b1, i1⟩, ⟨b2, i2⟩, ⟨b3, i3⟩, ⟨b4, i4⟩, ⟨b5, i5⟩⟩, ⟨b6, i6⟩, xk, xv, xt⟩ := x
  replace rX : rowOf w1 (w.heap.size + 1) 0 24 = some #[.int .i64 xp, .string (bs xf), .string (bs xn), .string (bs xg), .string (bs xm), .int .i64 xo, .int .i64 xc, .int .i64 xh, .string (bs xd), .bool b1, .int .i64 i1, .bool b2, .int .i64 i2, .bool b3, .int .i64 i3, .bool b4, .int .i64 i4, .bool b5, .int .i64 i5, .bool b6, .int .i64 i6, .int .i64 xk, .int .i64 xv, .string (bs xt)] := rX
  go_enter Tryz.func37, Tryz.ntmps37
  go_upto_region 1 with fail
  change Code.wp _ _ _ _ ((w.alloc (.cells a.vals.toArray 38)).alloc (.cells (Call.vals _).toArray 36))
  rw [← HW.out]
  go_wp2_with fail
  go_region_held3 (fun W => TStb g w1 W) (first | exact TStb.start | assumption | (exact TStb.alloc (by assumption) _) | (exact TStb.call (by assumption) (by assumption))) (first
    | (go_at_call 81; refine (KA.out _ (by first | exact HD.out | exact HDa.out _)).mono ?_; rintro e w2 ⟨v, rfl, hrow, hA, ht⟩)
    | (refine step_append_by (R := fun v' w' => PlanP F g (c.ahead n).1 l ((c.ahead n).2 ++ [⟨⟨xp, xf, xn, xg, xm, xo, xc, xh, xd, ⟨⟨b1, i1⟩, ⟨b2, i2⟩, ⟨b3, i3⟩, ⟨b4, i4⟩, ⟨b5, i5⟩⟩, ⟨b6, i6⟩, xk, xv, xt⟩, n, 0, -1, 0, 0⟩]) w (.returned v') w' ∧ TStb g w1 w') (by rfl) (.tmp 67) (.tmp 72) #[89, 89] (by rfl) _ _ (by rfl) (by rfl) (app_new (qs := [⟨⟨xp, xf, xn, xg, xm, xo, xc, xh, xd, ⟨⟨b1, i1⟩, ⟨b2, i2⟩, ⟨b3, i3⟩, ⟨b4, i4⟩, ⟨b5, i5⟩⟩, ⟨b6, i6⟩, xk, xv, xt⟩, n, 0, -1, 0, 0⟩]) hA HF.out hrow ht HB.out HD.out (ahead_few _ _) (Nat.le_of_ble_eq_true rfl) rfl) ?_; rintro v' w4 ⟨hPl, hS4⟩)
    | (refine step_append_by (R := fun v' w' => PlanP F g (c.ahead n).1 l ((c.ahead n).2 ++ [⟨⟨xp, xf, xn, xg, xm, xo, xc, xh, xd, ⟨⟨b1, i1⟩, ⟨b2, i2⟩, ⟨b3, i3⟩, ⟨b4, i4⟩, ⟨b5, i5⟩⟩, ⟨b6, i6⟩, xk, xv, xt⟩, n, 0, -1, 0, 0⟩]) w (.returned v') w' ∧ TStb g w1 w') (by rfl) (.tmp 67) (.tmp 72) #[89, 89] (by rfl) _ _ (by rfl) (by rfl) (app_old (qs := [⟨⟨xp, xf, xn, xg, xm, xo, xc, xh, xd, ⟨⟨b1, i1⟩, ⟨b2, i2⟩, ⟨b3, i3⟩, ⟨b4, i4⟩, ⟨b5, i5⟩⟩, ⟨b6, i6⟩, xk, xv, xt⟩, n, 0, -1, 0, 0⟩]) hA HF.out hrow ht HB.out (HDa.out _) (Blk.new w1.drew _ _) nB.out (ahead_few _ _) (Nat.le_of_ble_eq_true rfl) rfl) ?_; rintro v' w4 ⟨hPl, hS4⟩)
    | fail)
  all_goals
    go_wp2
    go_ret
    rw [HQ.out]
    exact hPl
set_option maxRecDepth 20000 in
set_option maxHeartbeats 1600000 in
theorem plan33_1 (F : Nat → Prop) (w : World) (g : Nat) (c : ClD) (z : Clnt) (l : List Recd) (hC : ClAt F w g c z l) (hF : ∀ k, F k → k < w.heap.size) (a : Ask) (x : Call) (n : Nat) (hv : a.var = n) (hn : n < 4) (hk : a.kind = 1) :
    Calls Tryz.prog 37 #[.pointer (some ⟨g, 0, none⟩), .agg a.vals.toArray, .agg x.vals.toArray] w (PlanP F g (c.plan a x).1 l (c.plan a x).2 w) := by
  have hgl := hC.blk.lt
  obtain ⟨bA, bX, hB, hs⟩ := chain2_blks w a.vals x.vals 38 36
  obtain ⟨w1, hw1⟩ : ∃ V, V = (w.alloc (.cells a.vals.toArray 38)).alloc (.cells x.vals.toArray 36) := ⟨_, rfl⟩
  rw [← hw1] at bA bX hB hs
  have HW := Lib.hid hw1
  clear hw1
  have HQ := Lib.hid (show c.plan a x = ((c.ahead n).1, (c.ahead n).2 ++ [⟨{ callZ with proc := 1 }, a.dir, 0, -1, 0, 0⟩, ⟨x, a.dir, 0, n, 0, 0⟩, ⟨{ callZ with proc := 1 }, n, 0, -1, 0, 0⟩]) by unfold ClD.plan; rw [if_pos hk, hv])
  have c0 : w1.cell? ⟨w.heap.size, 0, none⟩ = some (.int .i64 a.kind) := bA.cell 0
  have c1 : w1.cell? ⟨w.heap.size, 1, none⟩ = some (.int .i64 n) := by rw [bA.cell 1, ← hv]; rfl
  have c2 : w1.cell? ⟨w.heap.size, 2, none⟩ = some (.int .i64 a.dir) := bA.cell 2
  have c3 : w1.cell? ⟨w.heap.size, 3, none⟩ = some (.int .i64 a.to_) := bA.cell 3
  have x0 : w1.cell? ⟨w.heap.size + 1, 0, none⟩ = some (.int .i64 x.proc) := bX.cell 0
  have rX : rowOf w1 (w.heap.size + 1) 0 24 = some x.vals.toArray := bX.row 0 24 (by rw [Call.len]; omega)
  rw [hk] at c0
  have hl0 := bA.lt
  have hl1 := bX.lt
  have n0 : w.heap.size ≠ g := by omega
  have n1 : w.heap.size + 1 ≠ g := by omega
  have KA := Lib.hid (fun (W : World) (h : Below w1.heap.size w1 W) => ahead33_any F W g c z l ((hC.below hB).below h) n hn)
  have HB := Lib.hid hB
  have HF := Lib.hid hF
  have HC := Lib.hid (hC.below hB)
  have HD := Lib.hid (show Below w1.heap.size w1 w1.drew from (Below.refl _ _).drew)
  have HDa := Lib.hid (fun (o : Obj) => show Below w1.heap.size w1 (w1.drew.alloc o) from (Below.refl _ _).drew.alloc (Nat.le_refl _) o)
  have nB := Lib.hid (show w1.heap.size ≠ g by omega)
  have hbx := Lib.hid (And.intro bA bX)
  generalize a.kind = kk at *
  clear hs hB bA bX hC hv hF hk
  obtain ⟨xp, xf, xn, xg, xm, xo, xc, xh, xd, ⟨⟨b1, i1⟩, ⟨b2, i2⟩, ⟨b3, i3⟩, ⟨b4, i4⟩, ⟨b5, i5⟩⟩, ⟨b6, i6⟩, xk, xv, xt⟩ := x
  replace rX : rowOf w1 (w.heap.size + 1) 0 24 = some #[.int .i64 xp, .string (bs xf), .string (bs xn), .string (bs xg), .string (bs xm), .int .i64 xo, .int .i64 xc, .int .i64 xh, .string (bs xd), .bool b1, .int .i64 i1, .bool b2, .int .i64 i2, .bool b3, .int .i64 i3, .bool b4, .int .i64 i4, .bool b5, .int .i64 i5, .bool b6, .int .i64 i6, .int .i64 xk, .int .i64 xv, .string (bs xt)] := rX
  go_enter Tryz.func37, Tryz.ntmps37
  go_upto_region 1 with fail
  change Code.wp _ _ _ _ ((w.alloc (.cells a.vals.toArray 38)).alloc (.cells (Call.vals _).toArray 36))
  rw [← HW.out]
  go_wp2_with fail
  go_region_held3 (fun W => TStb g w1 W) (first | exact TStb.start | assumption | (exact TStb.alloc (by assumption) _) | (exact TStb.call (by assumption) (by assumption))) (first
    | (go_at_call 81; refine (KA.out _ (by first | exact HD.out | exact HDa.out _)).mono ?_; rintro e w2 ⟨v, rfl, hrow, hA, ht⟩)
    | (refine step_append_by (R := fun v' w' => PlanP F g (c.ahead n).1 l ((c.ahead n).2 ++ [⟨{ callZ with proc := 1 }, a.dir, 0, -1, 0, 0⟩, ⟨⟨xp, xf, xn, xg, xm, xo, xc, xh, xd, ⟨⟨b1, i1⟩, ⟨b2, i2⟩, ⟨b3, i3⟩, ⟨b4, i4⟩, ⟨b5, i5⟩⟩, ⟨b6, i6⟩, xk, xv, xt⟩, a.dir, 0, n, 0, 0⟩, ⟨{ callZ with proc := 1 }, n, 0, -1, 0, 0⟩]) w (.returned v') w' ∧ TStb g w1 w') (by rfl) (.tmp 14) (.tmp 29) #[89, 89] (by rfl) _ _ (by rfl) (by rfl) (app_new (qs := [⟨{ callZ with proc := 1 }, a.dir, 0, -1, 0, 0⟩, ⟨⟨xp, xf, xn, xg, xm, xo, xc, xh, xd, ⟨⟨b1, i1⟩, ⟨b2, i2⟩, ⟨b3, i3⟩, ⟨b4, i4⟩, ⟨b5, i5⟩⟩, ⟨b6, i6⟩, xk, xv, xt⟩, a.dir, 0, n, 0, 0⟩, ⟨{ callZ with proc := 1 }, n, 0, -1, 0, 0⟩]) hA HF.out hrow ht HB.out HD.out (ahead_few _ _) (Nat.le_of_ble_eq_true rfl) rfl) ?_; rintro v' w4 ⟨hPl, hS4⟩)
    | (refine step_append_by (R := fun v' w' => PlanP F g (c.ahead n).1 l ((c.ahead n).2 ++ [⟨{ callZ with proc := 1 }, a.dir, 0, -1, 0, 0⟩, ⟨⟨xp, xf, xn, xg, xm, xo, xc, xh, xd, ⟨⟨b1, i1⟩, ⟨b2, i2⟩, ⟨b3, i3⟩, ⟨b4, i4⟩, ⟨b5, i5⟩⟩, ⟨b6, i6⟩, xk, xv, xt⟩, a.dir, 0, n, 0, 0⟩, ⟨{ callZ with proc := 1 }, n, 0, -1, 0, 0⟩]) w (.returned v') w' ∧ TStb g w1 w') (by rfl) (.tmp 14) (.tmp 29) #[89, 89] (by rfl) _ _ (by rfl) (by rfl) (app_old (qs := [⟨{ callZ with proc := 1 }, a.dir, 0, -1, 0, 0⟩, ⟨⟨xp, xf, xn, xg, xm, xo, xc, xh, xd, ⟨⟨b1, i1⟩, ⟨b2, i2⟩, ⟨b3, i3⟩, ⟨b4, i4⟩, ⟨b5, i5⟩⟩, ⟨b6, i6⟩, xk, xv, xt⟩, a.dir, 0, n, 0, 0⟩, ⟨{ callZ with proc := 1 }, n, 0, -1, 0, 0⟩]) hA HF.out hrow ht HB.out (HDa.out _) (Blk.new w1.drew _ _) nB.out (ahead_few _ _) (Nat.le_of_ble_eq_true rfl) rfl) ?_; rintro v' w4 ⟨hPl, hS4⟩)
    | fail)
  all_goals
    go_wp2
    go_ret
    rw [HQ.out]
    exact hPl
set_option maxRecDepth 20000 in
set_option maxHeartbeats 1600000 in
theorem plan33_5b (F : Nat → Prop) (w : World) (g : Nat) (c : ClD) (z : Clnt) (l : List Recd) (hC : ClAt F w g c z l) (hF : ∀ k, F k → k < w.heap.size) (a : Ask) (x : Call) (n : Nat) (hv : a.var = n) (hn : n < 4) (hk : a.kind = 5) (hb : bornC x.proc = true) :
    Calls Tryz.prog 37 #[.pointer (some ⟨g, 0, none⟩), .agg a.vals.toArray, .agg x.vals.toArray] w (PlanP F g (c.plan a x).1 l (c.plan a x).2 w) := by
  have hgl := hC.blk.lt
  obtain ⟨bA, bX, hB, hs⟩ := chain2_blks w a.vals x.vals 38 36
  obtain ⟨w1, hw1⟩ : ∃ V, V = (w.alloc (.cells a.vals.toArray 38)).alloc (.cells x.vals.toArray 36) := ⟨_, rfl⟩
  rw [← hw1] at bA bX hB hs
  have HW := Lib.hid hw1
  clear hw1
  have HQ := Lib.hid (show c.plan a x = ((c.ahead n).1, (c.ahead n).2 ++ [⟨x, a.dir, a.to_, n, 0, 0⟩]) by unfold ClD.plan; rw [if_neg (by omega), if_neg (by omega), if_pos hk, hb, hv]; rfl)
  have c0 : w1.cell? ⟨w.heap.size, 0, none⟩ = some (.int .i64 a.kind) := bA.cell 0
  have c1 : w1.cell? ⟨w.heap.size, 1, none⟩ = some (.int .i64 n) := by rw [bA.cell 1, ← hv]; rfl
  have c2 : w1.cell? ⟨w.heap.size, 2, none⟩ = some (.int .i64 a.dir) := bA.cell 2
  have c3 : w1.cell? ⟨w.heap.size, 3, none⟩ = some (.int .i64 a.to_) := bA.cell 3
  have x0 : w1.cell? ⟨w.heap.size + 1, 0, none⟩ = some (.int .i64 x.proc) := bX.cell 0
  have rX : rowOf w1 (w.heap.size + 1) 0 24 = some x.vals.toArray := bX.row 0 24 (by rw [Call.len]; omega)
  rw [hk] at c0
  have hl0 := bA.lt
  have hl1 := bX.lt
  have n0 : w.heap.size ≠ g := by omega
  have n1 : w.heap.size + 1 ≠ g := by omega
  have KA := Lib.hid (fun (W : World) (h : Below w1.heap.size w1 W) => ahead33_any F W g c z l ((hC.below hB).below h) n hn)
  have HB := Lib.hid hB
  have HF := Lib.hid hF
  have HC := Lib.hid (hC.below hB)
  have HD := Lib.hid (show Below w1.heap.size w1 w1.drew from (Below.refl _ _).drew)
  have HDa := Lib.hid (fun (o : Obj) => show Below w1.heap.size w1 (w1.drew.alloc o) from (Below.refl _ _).drew.alloc (Nat.le_refl _) o)
  have nB := Lib.hid (show w1.heap.size ≠ g by omega)
  have hbx := Lib.hid (And.intro bA bX)
  generalize a.kind = kk at *
  clear hs hB bA bX hC hv hF hk
  obtain ⟨xp, xf, xn, xg, xm, xo, xc, xh, xd, ⟨⟨b1, i1⟩, ⟨b2, i2⟩, ⟨b3, i3⟩, ⟨b4, i4⟩, ⟨b5, i5⟩⟩, ⟨b6, i6⟩, xk, xv, xt⟩ := x
  replace rX : rowOf w1 (w.heap.size + 1) 0 24 = some #[.int .i64 xp, .string (bs xf), .string (bs xn), .string (bs xg), .string (bs xm), .int .i64 xo, .int .i64 xc, .int .i64 xh, .string (bs xd), .bool b1, .int .i64 i1, .bool b2, .int .i64 i2, .bool b3, .int .i64 i3, .bool b4, .int .i64 i4, .bool b5, .int .i64 i5, .bool b6, .int .i64 i6, .int .i64 xk, .int .i64 xv, .string (bs xt)] := rX
  go_enter Tryz.func37, Tryz.ntmps37
  go_upto_region 1 with fail
  change Code.wp _ _ _ _ ((w.alloc (.cells a.vals.toArray 38)).alloc (.cells (Call.vals _).toArray 36))
  rw [← HW.out]
  have HBo := Lib.hid (show bornC xp = true from hb)
  clear hb
  go_wp2_with fail
  refine (born33_any _ _).mono ?_
  rintro e wb ⟨rfl, hwb⟩
  rw [hwb, HBo.out]
  clear hwb
  go_wp2_with fail
  go_region_held3 (fun W => TStb g w1 W) (first | exact TStb.start | assumption | (exact TStb.alloc (by assumption) _) | (exact TStb.call (by assumption) (by assumption))) (first
    | (go_at_call 81; refine (KA.out _ (by first | exact HD.out | exact HDa.out _)).mono ?_; rintro e w2 ⟨v, rfl, hrow, hA, ht⟩)
    | (refine step_append_by (R := fun v' w' => PlanP F g (c.ahead n).1 l ((c.ahead n).2 ++ [⟨⟨xp, xf, xn, xg, xm, xo, xc, xh, xd, ⟨⟨b1, i1⟩, ⟨b2, i2⟩, ⟨b3, i3⟩, ⟨b4, i4⟩, ⟨b5, i5⟩⟩, ⟨b6, i6⟩, xk, xv, xt⟩, a.dir, a.to_, n, 0, 0⟩]) w (.returned v') w' ∧ TStb g w1 w') (by rfl) (.tmp 46) (.tmp 55) #[89, 89] (by rfl) _ _ (by rfl) (by rfl) (app_new (qs := [⟨⟨xp, xf, xn, xg, xm, xo, xc, xh, xd, ⟨⟨b1, i1⟩, ⟨b2, i2⟩, ⟨b3, i3⟩, ⟨b4, i4⟩, ⟨b5, i5⟩⟩, ⟨b6, i6⟩, xk, xv, xt⟩, a.dir, a.to_, n, 0, 0⟩]) hA HF.out hrow ht HB.out HD.out (ahead_few _ _) (Nat.le_of_ble_eq_true rfl) rfl) ?_; rintro v' w4 ⟨hPl, hS4⟩)
    | (refine step_append_by (R := fun v' w' => PlanP F g (c.ahead n).1 l ((c.ahead n).2 ++ [⟨⟨xp, xf, xn, xg, xm, xo, xc, xh, xd, ⟨⟨b1, i1⟩, ⟨b2, i2⟩, ⟨b3, i3⟩, ⟨b4, i4⟩, ⟨b5, i5⟩⟩, ⟨b6, i6⟩, xk, xv, xt⟩, a.dir, a.to_, n, 0, 0⟩]) w (.returned v') w' ∧ TStb g w1 w') (by rfl) (.tmp 46) (.tmp 55) #[89, 89] (by rfl) _ _ (by rfl) (by rfl) (app_old (qs := [⟨⟨xp, xf, xn, xg, xm, xo, xc, xh, xd, ⟨⟨b1, i1⟩, ⟨b2, i2⟩, ⟨b3, i3⟩, ⟨b4, i4⟩, ⟨b5, i5⟩⟩, ⟨b6, i6⟩, xk, xv, xt⟩, a.dir, a.to_, n, 0, 0⟩]) hA HF.out hrow ht HB.out (HDa.out _) (Blk.new w1.drew _ _) nB.out (ahead_few _ _) (Nat.le_of_ble_eq_true rfl) rfl) ?_; rintro v' w4 ⟨hPl, hS4⟩)
    | fail)
  all_goals
    go_wp2
    go_ret
    rw [HQ.out]
    exact hPl
set_option maxRecDepth 20000 in
set_option maxHeartbeats 1600000 in
theorem plan33_5n (F : Nat → Prop) (w : World) (g : Nat) (c : ClD) (z : Clnt) (l : List Recd) (hC : ClAt F w g c z l) (hF : ∀ k, F k → k < w.heap.size) (a : Ask) (x : Call) (n : Nat) (hv : a.var = n) (hn : n < 4) (hk : a.kind = 5) (hb : bornC x.proc = false) :
    Calls Tryz.prog 37 #[.pointer (some ⟨g, 0, none⟩), .agg a.vals.toArray, .agg x.vals.toArray] w (PlanP F g (c.plan a x).1 l (c.plan a x).2 w) := by
  have hgl := hC.blk.lt
  obtain ⟨bA, bX, hB, hs⟩ := chain2_blks w a.vals x.vals 38 36
  obtain ⟨w1, hw1⟩ : ∃ V, V = (w.alloc (.cells a.vals.toArray 38)).alloc (.cells x.vals.toArray 36) := ⟨_, rfl⟩
  rw [← hw1] at bA bX hB hs
  have HW := Lib.hid hw1
  clear hw1
  have HQ := Lib.hid (show c.plan a x = (c, [⟨x, a.dir, a.to_, -1, 0, 0⟩]) by unfold ClD.plan; rw [if_neg (by omega), if_neg (by omega), if_pos hk, hb]; rfl)
  have c0 : w1.cell? ⟨w.heap.size, 0, none⟩ = some (.int .i64 a.kind) := bA.cell 0
  have c1 : w1.cell? ⟨w.heap.size, 1, none⟩ = some (.int .i64 n) := by rw [bA.cell 1, ← hv]; rfl
  have c2 : w1.cell? ⟨w.heap.size, 2, none⟩ = some (.int .i64 a.dir) := bA.cell 2
  have c3 : w1.cell? ⟨w.heap.size, 3, none⟩ = some (.int .i64 a.to_) := bA.cell 3
  have x0 : w1.cell? ⟨w.heap.size + 1, 0, none⟩ = some (.int .i64 x.proc) := bX.cell 0
  have rX : rowOf w1 (w.heap.size + 1) 0 24 = some x.vals.toArray := bX.row 0 24 (by rw [Call.len]; omega)
  rw [hk] at c0
  have hl0 := bA.lt
  have hl1 := bX.lt
  have n0 : w.heap.size ≠ g := by omega
  have n1 : w.heap.size + 1 ≠ g := by omega
  have KA := Lib.hid (fun (W : World) (h : Below w1.heap.size w1 W) => ahead33_any F W g c z l ((hC.below hB).below h) n hn)
  have HB := Lib.hid hB
  have HF := Lib.hid hF
  have HC := Lib.hid (hC.below hB)
  have HD := Lib.hid (show Below w1.heap.size w1 w1.drew from (Below.refl _ _).drew)
  have HDa := Lib.hid (fun (o : Obj) => show Below w1.heap.size w1 (w1.drew.alloc o) from (Below.refl _ _).drew.alloc (Nat.le_refl _) o)
  have nB := Lib.hid (show w1.heap.size ≠ g by omega)
  have hbx := Lib.hid (And.intro bA bX)
  generalize a.kind = kk at *
  clear hs hB bA bX hC hv hF hk
  obtain ⟨xp, xf, xn, xg, xm, xo, xc, xh, xd, ⟨⟨b1, i1⟩, ⟨b2, i2⟩, ⟨b3, i3⟩, ⟨b4, i4⟩, ⟨b5, i5⟩⟩, ⟨b6, i6⟩, xk, xv, xt⟩ := x
  replace rX : rowOf w1 (w.heap.size + 1) 0 24 = some #[.int .i64 xp, .string (bs xf), .string (bs xn), .string (bs xg), .string (bs xm), .int .i64 xo, .int .i64 xc, .int .i64 xh, .string (bs xd), .bool b1, .int .i64 i1, .bool b2, .int .i64 i2, .bool b3, .int .i64 i3, .bool b4, .int .i64 i4, .bool b5, .int .i64 i5, .bool b6, .int .i64 i6, .int .i64 xk, .int .i64 xv, .string (bs xt)] := rX
  go_enter Tryz.func37, Tryz.ntmps37
  go_upto_region 1 with fail
  change Code.wp _ _ _ _ ((w.alloc (.cells a.vals.toArray 38)).alloc (.cells (Call.vals _).toArray 36))
  rw [← HW.out]
  have HBo := Lib.hid (show bornC xp = false from hb)
  clear hb
  go_wp2_with fail
  refine (born33_any _ _).mono ?_
  rintro e wb ⟨rfl, hwb⟩
  rw [hwb, HBo.out]
  clear hwb
  go_wp2_with fail
  go_wp2
  go_ret
  rw [HQ.out]
  refine ⟨_, rfl, ?_, ⟨z, HC.out.below ((Below.refl _ _).alloc (Nat.le_refl _) _)⟩, Touch.of_below (HB.out.alloc HB.out.size _) _⟩
  exact RowS.made w1 (b := w1.heap.size) (B := w.heap.size) (sz := 29) (k := 1) 91 (([⟨⟨xp, xf, xn, xg, xm, xo, xc, xh, xd, ⟨⟨b1, i1⟩, ⟨b2, i2⟩, ⟨b3, i3⟩, ⟨b4, i4⟩, ⟨b5, i5⟩⟩, ⟨b6, i6⟩, xk, xv, xt⟩, a.dir, a.to_, -1, 0, 0⟩] : List CPart).map CPart.vals) (parts_len _) rfl HB.out.size (by simp) rfl
set_option maxRecDepth 20000 in
set_option maxHeartbeats 1600000 in
theorem plan33_3 (F : Nat → Prop) (w : World) (g : Nat) (c : ClD) (z : Clnt) (l : List Recd) (hC : ClAt F w g c z l) (hF : ∀ k, F k → k < w.heap.size) (a : Ask) (x : Call) (n : Nat) (hv : a.var = n) (hn : n < 4) (hk : a.kind = 3) (hG : PlaceG (z.place n)) (hx : 0 ≤ x.offset ∧ x.offset ≤ 9223372036854775807) (hd : x.data.length ≤ 256) :
    Calls Tryz.prog 37 #[.pointer (some ⟨g, 0, none⟩), .agg a.vals.toArray, .agg x.vals.toArray] w (PlanP F g (c.plan a x).1 l (c.plan a x).2 w) := by
  have hgl := hC.blk.lt
  obtain ⟨bA, bX, hB, hs⟩ := chain2_blks w a.vals x.vals 38 36
  obtain ⟨w1, hw1⟩ : ∃ V, V = (w.alloc (.cells a.vals.toArray 38)).alloc (.cells x.vals.toArray 36) := ⟨_, rfl⟩
  rw [← hw1] at bA bX hB hs
  have HW := Lib.hid hw1
  clear hw1
  have HQ := Lib.hid (show c.plan a x = ((c.late n x).1, (c.late n x).2) by unfold ClD.plan; rw [if_neg (by omega), if_pos hk, hv])
  have c0 : w1.cell? ⟨w.heap.size, 0, none⟩ = some (.int .i64 a.kind) := bA.cell 0
  have c1 : w1.cell? ⟨w.heap.size, 1, none⟩ = some (.int .i64 n) := by rw [bA.cell 1, ← hv]; rfl
  have c2 : w1.cell? ⟨w.heap.size, 2, none⟩ = some (.int .i64 a.dir) := bA.cell 2
  have c3 : w1.cell? ⟨w.heap.size, 3, none⟩ = some (.int .i64 a.to_) := bA.cell 3
  have x0 : w1.cell? ⟨w.heap.size + 1, 0, none⟩ = some (.int .i64 x.proc) := bX.cell 0
  have rX : rowOf w1 (w.heap.size + 1) 0 24 = some x.vals.toArray := bX.row 0 24 (by rw [Call.len]; omega)
  rw [hk] at c0
  have KL := Lib.hid (late33_any F w1 g c z l (hC.below hB) n hn x hG hx hd)
  have hl0 := bA.lt
  have hl1 := bX.lt
  have n0 : w.heap.size ≠ g := by omega
  have n1 : w.heap.size + 1 ≠ g := by omega
  have KA := Lib.hid (fun (W : World) (h : Below w1.heap.size w1 W) => ahead33_any F W g c z l ((hC.below hB).below h) n hn)
  have HB := Lib.hid hB
  have HF := Lib.hid hF
  have HC := Lib.hid (hC.below hB)
  have HD := Lib.hid (show Below w1.heap.size w1 w1.drew from (Below.refl _ _).drew)
  have HDa := Lib.hid (fun (o : Obj) => show Below w1.heap.size w1 (w1.drew.alloc o) from (Below.refl _ _).drew.alloc (Nat.le_refl _) o)
  have nB := Lib.hid (show w1.heap.size ≠ g by omega)
  have hbx := Lib.hid (And.intro bA bX)
  generalize a.kind = kk at *
  clear hs hB bA bX hC hv hF hk hx hd hG
  go_enter Tryz.func37, Tryz.ntmps37
  go_upto_region 1 with fail
  change Code.wp _ _ _ _ ((w.alloc (.cells a.vals.toArray 38)).alloc (.cells (Call.vals _).toArray 36))
  rw [← HW.out]
  go_wp2_with fail
  refine KL.out.mono ?_
  rintro e w2 ⟨v, rfl, hrow, hA, ht⟩
  have HR := Lib.hid (And.intro (hrow.base HB.out.size) (And.intro hA ((Touch.of_below HB.out _).then_ ht)))
  clear hrow hA ht
  go_wp2
  go_ret
  rw [HQ.out]
  exact ⟨_, rfl, HR.out⟩
theorem plan33_any (F : Nat → Prop) (w : World) (g : Nat) (c : ClD) (z : Clnt) (l : List Recd) (hC : ClAt F w g c z l) (hG : ClGood c) (a : Ask) (hg : CallG a.call) (step now : Int) (hm : mayAsk a step now = true) :
    Calls Tryz.prog 37 #[.pointer (some ⟨g, 0, none⟩), .agg a.vals.toArray, .agg (askedC a).1.vals.toArray] w (PlanP F g (c.plan a (askedC a).1).1 l (c.plan a (askedC a).1).2 w) := by
  have hgo := (askedC_g hg).offset
  simp only [mayAsk, Bool.and_eq_true, decide_eq_true_eq] at hm
  obtain ⟨⟨⟨⟨⟨hk, -⟩, -⟩, hpl⟩, -⟩, hck⟩ := hm
  have hv : 0 ≤ a.var ∧ a.var < 4 ∧ (a.kind = 1 ∨ a.kind = 2 ∨ a.kind = 3 ∨ a.kind = 4 ∨ a.kind = 5) := by
    unfold askedC at hpl hk
    by_cases h1 : a.kind = 1
    · rw [if_pos h1] at hpl
      simp only [List.all_cons, List.all_nil, Bool.and_eq_true, Bool.and_true] at hpl
      have := placeC_of hpl.2
      omega
    rw [if_neg h1] at hpl hk
    by_cases h2 : a.kind = 2
    · rw [if_pos h2] at hpl
      simp only [List.all_cons, List.all_nil, Bool.and_true] at hpl
      have := placeC_of hpl
      omega
    rw [if_neg h2] at hpl hk
    by_cases h3 : a.kind = 3
    · rw [if_pos h3] at hpl
      simp only [List.all_cons, List.all_nil, Bool.and_true] at hpl
      have := placeC_of hpl
      omega
    rw [if_neg h3] at hpl hk
    by_cases h4 : a.kind = 4
    · rw [if_pos h4] at hpl
      simp only [List.all_cons, List.all_nil, Bool.and_true] at hpl
      have := placeC_of hpl
      omega
    rw [if_neg h4] at hpl hk
    by_cases h5 : a.kind = 5
    · rw [if_pos h5] at hpl
      simp only [List.all_cons, List.all_nil, Bool.and_eq_true, Bool.and_true] at hpl
      have := placeC_of hpl.2.2
      omega
    rw [if_neg h5] at hk
    cases hk
  obtain ⟨hv0, hv1, hv2⟩ := hv
  obtain ⟨n, hn⟩ : ∃ n : Nat, a.var = n := ⟨a.var.toNat, by omega⟩
  have hn4 : n < 4 := by omega
  have hF := hC.lt
  rcases hv2 with h | h | h | h | h
  · exact plan33_1 F w g c z l hC hF a _ n hn hn4 h
  · exact plan33_24 F w g c z l hC hF a _ n hn hn4 (.inl h)
  · have hw : 0 ≤ (askedC a).1.offset ∧ (askedC a).1.data.length ≤ 256 := by
      have e : (askedC a).1 = { callZ with proc := 7, offset := a.call.offset, data := a.call.data, how := 2 } := by
        unfold askedC; rw [if_neg (by omega), if_neg (by omega), if_pos h]
      rw [e] at hck ⊢
      exact cMay_write hck
    have hpg := hG.at_ (n : Int)
    rw [hC.is.at_ hn4] at hpg
    exact plan33_3 F w g c z l hC hF a _ n hn hn4 h hpg ⟨hw.1, hgo⟩ hw.2
  · exact plan33_24 F w g c z l hC hF a _ n hn hn4 (.inr h)
  · cases hb : bornC (askedC a).1.proc
    · exact plan33_5n F w g c z l hC hF a _ n hn hn4 h hb
    · exact plan33_5b F w g c z l hC hF a _ n hn hn4 h hb
end Go.Proofs.YtfjflkmhhbhceaaGreatDoor
