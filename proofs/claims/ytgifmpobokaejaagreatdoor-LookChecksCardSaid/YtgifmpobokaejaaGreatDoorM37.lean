/-
  Layer 22, walks: each method by the number of its procedure. Conditions: a tree that is not too large.
-/
import Derived.Test.YtgifmpobokaejaaGreatDoorM34
import Derived.Test.YtgifmpobokaejaaGreatDoorM36
import Derived.Test.YtgifmpobokaejaaGreatDoorM29
import Derived.Test.YtgifmpobokaejaaGreatDoorM13
import Derived.Test.YtgifmpobokaejaaGreatDoorM33
namespace Go.Proofs.YtgifmpobokaejaaGreatDoor
open Go.RowKit
open Go.RowKit
attribute [local go_sem ↓] Go.wp_at_zero Go.wp_at_succ
attribute [local go_sem] rowAt_ptr rowOf_drew rowOf_drewN rowOf_alloc_past rowOf_new

theorem eqlNilF (f : Nat) (w : World) : (binOp .eql 70 (fnV f) Value.nilFunc).run Tryz.prog w = .ok (.bool false) w := by kernel_rfl
theorem neqNilF (f : Nat) (w : World) : (binOp .neq 70 (fnV f) Value.nilFunc).run Tryz.prog w = .ok (.bool true) w := by kernel_rfl
theorem eqlNilN (w : World) : (binOp .eql 70 Value.nilFunc Value.nilFunc).run Tryz.prog w = .ok (.bool true) w := by kernel_rfl
theorem neqNilN (w : World) : (binOp .neq 70 Value.nilFunc Value.nilFunc).run Tryz.prog w = .ok (.bool false) w := by kernel_rfl
theorem callF : ∀ f ∈ [70, 71, 72, 73, 74, 75, 76, 77, 78, 79, 80], ∀ (args : Array Value) (w : World), (callFunc f args).run Tryz.prog w = .ok (.enter f args) w := by
  intro f hf args w
  simp only [List.mem_cons, List.not_mem_nil, or_false] at hf
  rcases hf with rfl | rfl | rfl | rfl | rfl | rfl | rfl | rfl | rfl | rfl | rfl
  all_goals kernel_rfl
/-- a tree in memory, with its entries, not too large -/
structure TreeH (w : World) (t : Tr) (ps : List (Nd × List Entry)) : Prop where
  ns : t.ns = ps.map (·.1)
  at_ : At w 15 t.na (t.ns.map Nd.vals)
  ents : Ents w ps
  few : small t.ns
  rows : ∀ p ∈ ps, p.2.length ≤ 70 ∧ ∀ x ∈ p.2, x.name.length ≤ 300
  gens : ∀ m ∈ t.ns, m.attr.gen ≤ 9223372036854775807
theorem TreeH.below {w w' : World} {t : Tr} {ps : List (Nd × List Entry)} (h : TreeH w t ps) (hb : Below w.heap.size w w') : TreeH w' t ps :=
  ⟨h.ns, h.at_.below hb, h.ents.below hb, h.few, h.rows, h.gens⟩
theorem TreeH.len {w : World} {t : Tr} {ps : List (Nd × List Entry)} (h : TreeH w t ps) : t.ns.length ≤ 9223372036854775807 := Nat.le_trans h.few.1 (by omega)
/-- what is told, but of the node -/
def askR (t : Tr) (u : Cred) (c : Call) (n : Nd) (es : List Entry) : RepD :=
  if c.proc = 3 then ⟨(lookupR t.ns u c n es).bare, [], []⟩ else if c.proc = 4 then ⟨({ replyZ with access := accP n.attr u.uid u.gid c.how } : Reply).bare, [], []⟩ else if c.proc = 5 then ⟨(linkR n).bare, [], []⟩ else if c.proc = 6 then ⟨(readR n u c).bare, [], []⟩
  else if c.proc = 16 then listR t.ns u c n es false else if c.proc = 17 then listR t.ns u c n es true else if c.proc = 18 then ⟨fldsZ, [], nums t u.uid⟩ else if c.proc = 19 then ⟨fldsZ, [], [256, 256, 1024, 1024]⟩ else if c.proc = 20 then ⟨fldsZ, [], [8, 24, 48]⟩ else if c.proc = 21 then ⟨(commitR n u).bare, [], []⟩ else ⟨fldsZ, [], []⟩
theorem plain_statR (s : Int) : (statR s).ea = none ∧ (statR s).en = 0 ∧ (statR s).ua = none ∧ (statR s).un = 0 := ⟨rfl, rfl, rfl, rfl⟩
theorem plain_lookupR (ns : List Nd) (u : Cred) (c : Call) (n : Nd) (es : List Entry) : (lookupR ns u c n es).ea = none ∧ (lookupR ns u c n es).en = 0 ∧ (lookupR ns u c n es).ua = none ∧ (lookupR ns u c n es).un = 0 := by
  unfold lookupR
  repeat' split
  all_goals exact ⟨rfl, rfl, rfl, rfl⟩
theorem plain_linkR (n : Nd) : (linkR n).ea = none ∧ (linkR n).en = 0 ∧ (linkR n).ua = none ∧ (linkR n).un = 0 := by
  unfold linkR
  split
  all_goals exact ⟨rfl, rfl, rfl, rfl⟩
theorem plain_readR (n : Nd) (u : Cred) (c : Call) : (readR n u c).ea = none ∧ (readR n u c).en = 0 ∧ (readR n u c).ua = none ∧ (readR n u c).un = 0 := by
  unfold readR
  split
  all_goals exact ⟨rfl, rfl, rfl, rfl⟩
theorem plain_commitR (n : Nd) (u : Cred) : (commitR n u).ea = none ∧ (commitR n u).en = 0 ∧ (commitR n u).ua = none ∧ (commitR n u).un = 0 := by
  unfold commitR
  split
  all_goals exact ⟨rfl, rfl, rfl, rfl⟩
theorem AskP.of {f : Nat} {a : Array Value} {r : Reply} {w : World} (h : r.ea = none ∧ r.en = 0 ∧ r.ua = none ∧ r.un = 0) (K : Calls Tryz.prog f a w fun e w' => e = .returned (.agg r.vals.toArray) ∧ Below w.heap.size w w') : Calls Tryz.prog f a w (AskP ⟨r.bare, [], []⟩ w) :=
  K.mono fun e w' ⟨he, hb⟩ => by
    subst he
    exact AskP.plain h hb
theorem dataL_len (n : Nd) : (dataL n).length = n.data.size := by unfold dataL; simp
theorem askAny (t : Tr) (ps : List (Nd × List Entry)) (u : Cred) (c : Call) (f : Nat) (p : Nd × List Entry) (hp : p ∈ ps) (w : World) (hT : TreeH w t ps) (hlim : t.lim.ok = true) (hc : c.good) (hL : LookLaid w) (hf : fnOf c.proc = some f) :
    Calls Tryz.prog f #[.agg (askV t u c p.1).toArray] w (AskP (askR t u c p.1 p.2) w) := by
  have hk : c.proc = 0 ∨ c.proc = 1 ∨ c.proc = 3 ∨ c.proc = 4 ∨ c.proc = 5 ∨ c.proc = 6 ∨ c.proc = 16 ∨ c.proc = 17 ∨ c.proc = 18 ∨ c.proc = 19 ∨ c.proc = 20 ∨ c.proc = 21 := by
    unfold fnOf at hf
    repeat' (split at hf)
    all_goals first | omega | cases hf
  have hn : p.1 ∈ t.ns := by rw [hT.ns]; exact List.mem_map_of_mem hp
  have hd : (dataL p.1).length ≤ 1048576 := by rw [dataL_len]; have := hT.few.2 _ hn; omega
  have hes := (hT.rows p hp).1
  have hen := (hT.ents p hp).1
  have hcc : -9223372036854775808 ≤ c.count ∧ c.count ≤ 9223372036854775807 := Go.bounds_i64 hc.2.2.2.2.2.2.1
  have hnm : c.name.length ≤ 9223372036854775807 := hc.2.2.1
  rcases hk with h | h | h | h | h | h | h | h | h | h | h | h
  all_goals
    unfold askR
    simp only [h] at hf ⊢
    have e := Option.some.inj hf
    clear hf
  · subst e
    exact AskP.of (r := replyZ) ⟨rfl, rfl, rfl, rfl⟩ (askNothing_any t u c p.1 w)
  · subst e
    exact AskP.of (r := replyZ) ⟨rfl, rfl, rfl, rfl⟩ (askNothing_any t u c p.1 w)
  · subst e
    exact AskP.of (plain_lookupR _ _ _ _ _) (askLookup_any t u c p.1 p.2 w hT.len hT.at_ hT.gens hen (by omega) (hT.ents p hp).2 hnm hL)
  · subst e
    exact AskP.of ⟨rfl, rfl, rfl, rfl⟩ (askAccess_any t u c p.1 w)
  · subst e
    exact AskP.of (plain_linkR _) (askReadlink_any t u c p.1 w)
  · subst e
    exact AskP.of (plain_readR _ _ _) (askRead_any t u c p.1 w hd hc)
  · subst e
    exact askReaddir_any t u c p.1 p.2 w hT.len hT.at_ hT.gens hen hes (hT.rows p hp).2 (hT.ents p hp).2 hcc hL
  · subst e
    exact askReaddirplus_any t u c p.1 p.2 w hT.len hT.at_ hT.gens hen hes (hT.rows p hp).2 (hT.ents p hp).2 hcc hL
  · subst e
    exact ask_fsstat_any t u c p.1 w hT.few hlim hT.at_
  · subst e
    exact ask_fsinfo_any t u c p.1 w
  · subst e
    exact ask_pathconf_any t u c p.1 w
  · subst e
    exact AskP.of (plain_commitR _ _) (askCommit_any t u c p.1 w)
end Go.Proofs.YtgifmpobokaejaaGreatDoor

/-
  Layer 22, walks: how many entries name a node, by the document, exact. Condition: a tree that is not too large.
-/
namespace Go.Proofs.YtgifmpobokaejaaGreatDoor
open Go.RowKit
open Go.RowKit
attribute [local go_sem ↓] Go.wp_at_zero Go.wp_at_succ
attribute [local go_sem] rowAt_ptr rowOf_drew rowOf_drewN rowOf_alloc_past rowOf_new
attribute [local go_sem ↓] ldNode22 ldTree22 ldAttrR ldEntry

theorem TreeH.rowAt2 {w : World} {t : Tr} {ps : List (Nd × List Entry)} (h : TreeH w t ps) {k : Nat} (hk : k < t.ns.length) : ∃ hk2 : k < ps.length, t.ns[k] = ps[k].1 ∧ ps[k].1.en = ps[k].2.length ∧ At w 15 ps[k].1.ea (ps[k].2.map Entry.vals) ∧ ps[k].2.length ≤ 70 := by
  have hns := h.ns
  have hkp : k < ps.length := by rw [hns, List.length_map] at hk; exact hk
  refine ⟨hkp, by simp only [hns, List.getElem_map], (h.ents _ (List.getElem_mem hkp)).1, (h.ents _ (List.getElem_mem hkp)).2, (h.rows _ (List.getElem_mem hkp)).1⟩
theorem namedF_at {g : Int} {ps : List (Nd × List Entry)} {k : Nat} (hk : k < ps.length) (a : Int × Int) : namedF g (ps.drop k) a = namedF g (ps.drop (k + 1)) (namedE g ps[k].1.attr.gen ps[k].2 a) := by
  rw [List.drop_eq_getElem_cons hk, namedF]
theorem namedE_at {g d : Int} {es : List Entry} {m : Nat} (hm : m < es.length) (a : Int × Int) : namedE g d (es.drop m) a = namedE g d (es.drop (m + 1)) (if es[m].gen = g then (a.1 + 1, d) else a) := by
  rw [List.drop_eq_getElem_cons hm, namedE]
theorem namedF_end {g : Int} {ps : List (Nd × List Entry)} {k : Nat} (hk : ps.length ≤ k) (a : Int × Int) : namedF g (ps.drop k) a = a := by
  rw [List.drop_of_length_le hk, namedF]
theorem namedE_end {g d : Int} {es : List Entry} {m : Nat} (hm : es.length ≤ m) (a : Int × Int) : namedE g d (es.drop m) a = a := by
  rw [List.drop_of_length_le hm, namedE]
/-- the number of names comes back -/
def NamedP (R : Int × Int) (w : World) (e : Ending) (w' : World) : Prop := e = .returned (.tuple #[.int .i64 R.1, .int .i64 R.2]) ∧ Below w.heap.size w w'
set_option maxRecDepth 20000 in
set_option maxHeartbeats 1600000 in
theorem refNamed_iff (t : Tr) (ps : List (Nd × List Entry)) (g : Int) (w : World) (hT : TreeH w t ps) :
    Calls Tryz.prog 68 #[t.val, .int .i64 g] w (NamedP (named ps g) w) := by
  have hX := Blk.new w 26 t.vals
  have hB : Below w.heap.size w (w.alloc (.cells t.vals.toArray 26)) := (Below.refl _ _).alloc (Nat.le_refl _) _
  obtain ⟨w1, hw1⟩ : ∃ V, V = w.alloc (.cells t.vals.toArray 26) := ⟨_, rfl⟩
  rw [← hw1] at hX hB
  have c5 : w1.cell? ⟨w.heap.size, 5, none⟩ = some (.slice t.na t.ns.length t.nc) := hX.cell 5
  have HW1 := Lib.hid hw1
  have HT := Lib.hid (hT.below hB)
  have HB := Lib.hid hB
  have hl := hT.len
  have hl70 := hT.few.1
  have hA1 := HT.out.at_
  have hlp : t.ns.length = ps.length := by rw [hT.ns, List.length_map]
  obtain ⟨R, hR⟩ : ∃ R, R = named ps g := ⟨_, rfl⟩
  have HR0 := Lib.hid (show namedF g (ps.drop 0) (0, 0) = R from hR.symm)
  rw [← hR]
  clear hw1 hX hT hB hR
  unfold Tr.val
  generalize hna : t.na = A at *
  have HR := Lib.hid (fun (k : Nat) (hk : k < t.ns.length) => HT.out.rowAt2 hk)
  generalize t.ns = ns at *
  have HLP := Lib.hid hlp
  go_enter Tryz.func68, Tryz.ntmps68
  go_upto_region 1 with fail
  change Code.wp _ _ _ _ (w.alloc (.cells t.vals.toArray 26))
  rw [← HW1.out]
  clear hna HT hlp
  go_wp2
  go_loopw [6, 7, 8] (fun a b i wr => ∃ (x y : Int) (k : Nat), a = .int .i64 x ∧ b = .int .i64 y ∧ k ≤ ns.length ∧ i = .int .i64 k ∧ 0 ≤ x ∧ x ≤ 70 * k ∧ namedF g (ps.drop k) (x, y) = R ∧ wr = w1) (fun _ _ i _ => ns.length - (intOf i).toNat)
  case atStart => exact ⟨0, 0, 0, rfl, rfl, Nat.zero_le _, rfl, by omega, by omega, HR0.out, rfl⟩
  case round =>
    obtain ⟨x, y, k, rfl, rfl, hk, rfl, hx0, hx1, hf, rfl⟩ := hrel
    have HF := Lib.hid hf
    clear hf
    by_cases hlt : k < ns.length
    · obtain ⟨hkp, hnp, hen, hE, h70⟩ := HR.out k hlt
      obtain ⟨b, off, rfl, hb, -, cc⟩ := rowCell8 Nd.len (by decide) hA1 hlt
      rw [hnp] at cc
      have c7 := cc 7 _ rfl
      have c14 := cc 14 _ rfl
      rw [hen] at c14
      have hk0 : (0 : Int) ≤ (k : Int) := Int.natCast_nonneg _
      have hk1 : (k : Int) < (ns.length : Int) := by omega
      have hiw : IntKind.i64.wrap ((k : Int) + 1) = ((k + 1 : Nat) : Int) := by rw [IntWalk.i64_in _ (by omega)]; omega
      have HF2 := Lib.hid (show namedF g (ps.drop (k + 1)) (namedE g ps[k].1.attr.gen (ps[k].2.drop 0) (x, y)) = R by rw [List.drop_zero, ← namedF_at hkp]; exact HF.out)
      generalize ps[k].2 = es at *
      have hd7 : Value.int .i64 (ps[k].1.attr.gen) = Value.int .i64 (ps[k].1.attr.gen) := rfl
      change World.cell? _ _ = some (Value.int .i64 (ps[k].1.attr.gen)) at c7
      generalize ps[k].1.attr.gen = d at *
      clear cc hnp hen hd7 HF
      go_wp2
      go_loopw [6, 7, 10] (fun a b j V => ∃ (x y : Int) (m : Nat), a = .int .i64 x ∧ b = .int .i64 y ∧ m ≤ es.length ∧ j = .int .i64 m ∧ 0 ≤ x ∧ x ≤ 70 * k + m ∧ namedF g (ps.drop (k + 1)) (namedE g d (es.drop m) (x, y)) = R ∧ V = wr) (fun _ _ j _ => es.length - (intOf j).toNat)
      case atStart => exact ⟨x, y, 0, rfl, rfl, Nat.zero_le _, rfl, by omega, by omega, HF2.out, rfl⟩
      case round =>
        obtain ⟨x, y, m, rfl, rfl, hm, rfl, hx0, hx1, hf, rfl⟩ := hrel
        have HF := Lib.hid hf
        clear hf HF2
        by_cases hlm : m < es.length
        · obtain ⟨be, oe, hea, hbe, -, ce⟩ := rowCell8 Entry.len (by decide) hE hlm
          rw [hea] at c14
          have c0 : World.cell? _ ⟨be, oe + m * 15, none⟩ = some (.int .i64 es[m].gen) := ce 0 _ rfl
          have hm0 : (0 : Int) ≤ (m : Int) := Int.natCast_nonneg _
          have hm1 : (m : Int) < (es.length : Int) := by omega
          have him : IntKind.i64.wrap ((m : Int) + 1) = ((m + 1 : Nat) : Int) := by rw [IntWalk.i64_in _ (by omega)]; omega
          have hxw : IntKind.i64.wrap (x + 1) = x + 1 := IntWalk.i64_in _ (by omega)
          rw [hea]
          by_cases hg : es[m].gen = g
          · have HN := Lib.hid (show namedF g (ps.drop (k + 1)) (namedE g d (es.drop (m + 1)) (x + 1, d)) = R by
              have h := HF.out
              rw [namedE_at hlm, if_pos hg] at h
              exact h)
            rw [hg] at c0
            clear ce hE
            go_wp2
            go_roundw
            case rel => exact ⟨_, _, m + 1, rfl, rfl, by omega, by first | rfl | go_num, by omega, by omega, HN.out, by first | rfl | trivial⟩
            case measure => simp [intOf]; omega
          · have hg2 : (es[m].gen == g) = false := by simpa using hg
            have HN := Lib.hid (show namedF g (ps.drop (k + 1)) (namedE g d (es.drop (m + 1)) (x, y)) = R by
              have h := HF.out
              rw [namedE_at hlm, if_neg hg] at h
              exact h)
            clear ce hE
            go_wp2
            go_roundw
            case rel => exact ⟨_, _, m + 1, rfl, rfl, by omega, by first | rfl | go_num, by omega, by omega, HN.out, by first | rfl | trivial⟩
            case measure => simp [intOf]; omega
        · obtain rfl : m = es.length := by omega
          have hlm : ¬ (es.length : Int) < (es.length : Int) := by omega
          have HN := Lib.hid (show namedF g (ps.drop (k + 1)) (x, y) = R by
            have h := HF.out
            rw [namedE_end (Nat.le_refl _)] at h
            exact h)
          clear hE
          go_wp2
          go_roundw
          case rel => exact ⟨_, _, k + 1, rfl, rfl, by omega, by first | rfl | go_num, by omega, by omega, HN.out, by first | rfl | trivial⟩
          case measure => simp [intOf]; omega
    · obtain rfl : k = ns.length := by omega
      have HN := Lib.hid (show (x, y) = R by
        have h := HF.out
        rw [namedF_end (by have := HLP.out; omega)] at h
        exact h)
      go_wp2
      go_ret2
      have e := HN.out
      subst e
      exact ⟨rfl, HB.out⟩
end Go.Proofs.YtgifmpobokaejaaGreatDoor


/-
  Layer 22, walks: how many entries name a node, and whether entries may be, by the program, exact. Conditions: machine lists; a tree that is not too large.
-/
namespace Go.Proofs.YtgifmpobokaejaaGreatDoor
open Go.RowKit
open Go.RowKit
attribute [local go_sem ↓] Go.wp_at_zero Go.wp_at_succ
attribute [local go_sem] rowAt_ptr rowOf_drew rowOf_drewN rowOf_alloc_past rowOf_new
attribute [local go_sem ↓] ldNode22 ldTree22 ldAttrR ldEntry

set_option maxRecDepth 20000 in
set_option maxHeartbeats 1600000 in
theorem lookNamed_iff (t : Tr) (ps : List (Nd × List Entry)) (g : Int) (w : World) (hT : TreeH w t ps) :
    Calls Tryz.prog 122 #[t.val, .int .i64 g] w (NamedP (named ps g) w) := by
  have hX := Blk.new w 26 t.vals
  have hB : Below w.heap.size w (w.alloc (.cells t.vals.toArray 26)) := (Below.refl _ _).alloc (Nat.le_refl _) _
  obtain ⟨w1, hw1⟩ : ∃ V, V = w.alloc (.cells t.vals.toArray 26) := ⟨_, rfl⟩
  rw [← hw1] at hX hB
  have c5 : w1.cell? ⟨w.heap.size, 5, none⟩ = some (.slice t.na t.ns.length t.nc) := hX.cell 5
  have HW1 := Lib.hid hw1
  have HT := Lib.hid (hT.below hB)
  have HB := Lib.hid hB
  have hl := hT.len
  have hl70 := hT.few.1
  have HA1 := Lib.hid HT.out.at_
  have hlp : t.ns.length = ps.length := by rw [hT.ns, List.length_map]
  obtain ⟨R, hR⟩ : ∃ R, R = named ps g := ⟨_, rfl⟩
  have HR0 := Lib.hid (show namedF g (ps.drop 0) (0, 0) = R from hR.symm)
  rw [← hR]
  clear hw1 hX hT hB hR
  unfold Tr.val
  generalize hna : t.na = A at *
  have HR := Lib.hid (fun (k : Nat) (hk : k < t.ns.length) => HT.out.rowAt2 hk)
  generalize t.ns = ns at *
  have HLP := Lib.hid hlp
  go_enter Tryz.func122, Tryz.ntmps122
  go_upto_region 1 with fail
  change Code.wp _ _ _ _ (w.alloc (.cells t.vals.toArray 26))
  rw [← HW1.out]
  clear hna HT hlp
  go_wp2
  go_loopw [6, 7, 15] (fun a b i wr => ∃ (x y : Int) (k : Nat), a = .int .i64 x ∧ b = .int .i64 y ∧ k ≤ ns.length ∧ i = .int .i64 k ∧ 0 ≤ x ∧ x ≤ 70 * k ∧ namedF g (ps.drop k) (x, y) = R ∧ Below w1.heap.size w1 wr) (fun _ _ i _ => ns.length - (intOf i).toNat)
  case atStart => exact ⟨0, 0, 0, rfl, rfl, Nat.zero_le _, rfl, by omega, by omega, HR0.out, Below.refl _ _⟩
  case round =>
    obtain ⟨wo, rfl⟩ : ∃ wo, wo = wr := ⟨wr, rfl⟩
    obtain ⟨x, y, k, rfl, rfl, hk, rfl, hx0, hx1, hf, hb⟩ := hrel
    have HF := Lib.hid hf
    have HBr := Lib.hid hb
    clear hf
    by_cases hlt : k < ns.length
    · obtain ⟨hkp, hnp, hen, hE, h70⟩ := HR.out k hlt
      obtain ⟨b, off, rfl, hb1, rn, -⟩ := rowCell8 Nd.len (by decide) (HA1.out.below hb) hlt
      rw [hnp] at rn
      have hk0 : (0 : Int) ≤ (k : Int) := Int.natCast_nonneg _
      have hk1 : (k : Int) < (ns.length : Int) := by omega
      have hiw : IntKind.i64.wrap ((k : Int) + 1) = ((k + 1 : Nat) : Int) := by rw [IntWalk.i64_in _ (by omega)]; omega
      have HF2 := Lib.hid (show namedF g (ps.drop (k + 1)) (namedE g ps[k].1.attr.gen (ps[k].2.drop 0) (x, y)) = R by rw [List.drop_zero, ← namedF_at hkp]; exact HF.out)
      generalize ps[k].2 = es at *
      generalize ps[k].1 = nd at *
      have bN := Blk.new wo 65 nd.vals
      have hbN : Below wo.heap.size wo (wo.alloc (.cells nd.vals.toArray 65)) := (Below.refl _ _).alloc (Nat.le_refl _) _
      have HE5 := Lib.hid ((hE.below hb).below hbN)
      clear hE hnp HF hb
      go_upto_region 5 with (first | (refine wpList_new_struct (by rfl) (by rfl) 65 (by rfl) _ _ (by rfl) nd.vals infoNode (by rfl) (by rfl) (Nd.one _) (by rfl) (by rfl) ?_) | fail)
      obtain ⟨w5, hw5⟩ : ∃ V, V = wo.alloc (.cells nd.vals.toArray 65) := ⟨_, rfl⟩
      rw [← hw5] at bN hbN HE5 ⊢
      have c14 : w5.cell? ⟨wo.heap.size, 14, none⟩ = some (.slice nd.ea es.length nd.ec) := by rw [bN.cell 14, ← hen]; rfl
      have c7 : w5.cell? ⟨wo.heap.size, 7, none⟩ = some (.int .i64 nd.attr.gen) := bN.cell 7
      have hlN := bN.lt
      have HB5 := Lib.hid (HBr.out.trans (hbN.mono HBr.out.size))
      have HW5 := Lib.hid hw5
      generalize nd.attr.gen = d at *
      generalize nd.ea = EA at *
      clear rn hbN bN hen hw5
      go_wp2
      go_loopw [6, 7, 22] (fun a b j V => ∃ (x y : Int) (m : Nat), a = .int .i64 x ∧ b = .int .i64 y ∧ m ≤ es.length ∧ j = .int .i64 m ∧ 0 ≤ x ∧ x ≤ 70 * k + m ∧ namedF g (ps.drop (k + 1)) (namedE g d (es.drop m) (x, y)) = R ∧ Below w5.heap.size w5 V) (fun _ _ j _ => es.length - (intOf j).toNat)
      case atStart => exact ⟨x, y, 0, rfl, rfl, Nat.zero_le _, rfl, by omega, by omega, HF2.out, Below.refl _ _⟩
      case round =>
        obtain ⟨x, y, m, rfl, rfl, hm, rfl, hx0, hx1, hf, hbV⟩ := hrel
        have HF := Lib.hid hf
        have HBV := Lib.hid hbV
        clear hf HF2
        by_cases hlm : m < es.length
        · obtain ⟨be, oe, rfl, hbe, re, -⟩ := rowCell8 Entry.len (by decide) (HE5.out.below hbV) hlm
          have hm0 : (0 : Int) ≤ (m : Int) := Int.natCast_nonneg _
          have hm1 : (m : Int) < (es.length : Int) := by omega
          have him : IntKind.i64.wrap ((m : Int) + 1) = ((m + 1 : Nat) : Int) := by rw [IntWalk.i64_in _ (by omega)]; omega
          have hxw : IntKind.i64.wrap (x + 1) = x + 1 := IntWalk.i64_in _ (by omega)
          have HN1 := Lib.hid (fun (hg : es[m].gen = g) => (show namedF g (ps.drop (k + 1)) (namedE g d (es.drop (m + 1)) (x + 1, d)) = R by
            have h := HF.out
            rw [namedE_at hlm, if_pos hg] at h
            exact h))
          have HN2 := Lib.hid (fun (hg : es[m].gen ≠ g) => (show namedF g (ps.drop (k + 1)) (namedE g d (es.drop (m + 1)) (x, y)) = R by
            have h := HF.out
            rw [namedE_at hlm, if_neg hg] at h
            exact h))
          generalize es[m] = xe at *
          have bE := Blk.new wr 80 xe.vals
          have hbE : Below wr.heap.size wr (wr.alloc (.cells xe.vals.toArray 80)) := (Below.refl _ _).alloc (Nat.le_refl _) _
          replace c7 := (hbV.cell (p := ⟨wo.heap.size, 7, none⟩) hlN).trans c7
          have hlN2 := Nat.lt_of_lt_of_le hlN hbV.size
          clear HF hbV
          go_upto_region 8 with (first | (refine wpList_new_struct (by rfl) (by rfl) 80 (by rfl) _ _ (by rfl) xe.vals infoEntry2 (by rfl) (by rfl) (Entry.one _) (by rfl) (by rfl) ?_) | fail)
          generalize wr.alloc (.cells xe.vals.toArray 80) = w8 at *
          have ce : w8.cell? ⟨wr.heap.size, 0, none⟩ = some (.int .i64 xe.gen) := bE.cell 0
          replace c7 := (hbE.cell (p := ⟨wo.heap.size, 7, none⟩) hlN2).trans c7
          have HB8 := Lib.hid (HBV.out.trans (hbE.mono HBV.out.size))
          clear hbE bE re c14
          by_cases hg : xe.gen = g
          · have HN := Lib.hid (HN1.out hg)
            rw [hg] at ce
            clear HN1 HN2 hg
            go_wp2
            go_roundw
            case rel => exact ⟨_, _, m + 1, rfl, rfl, by omega, by first | rfl | go_num, by omega, by omega, HN.out, HB8.out⟩
            case measure => simp [intOf]; omega
          · have hg2 : (xe.gen == g) = false := by simpa using hg
            have HN := Lib.hid (HN2.out hg)
            clear HN1 HN2 hg
            go_wp2
            go_roundw
            case rel => exact ⟨_, _, m + 1, rfl, rfl, by omega, by first | rfl | go_num, by omega, by omega, HN.out, HB8.out⟩
            case measure => simp [intOf]; omega
        · obtain rfl : m = es.length := by omega
          have hlm : ¬ (es.length : Int) < (es.length : Int) := by omega
          have HN := Lib.hid (show namedF g (ps.drop (k + 1)) (x, y) = R by
            have h := HF.out
            rw [namedE_end (Nat.le_refl _)] at h
            exact h)
          have HB8 := Lib.hid (HB5.out.trans (HBV.out.mono HB5.out.size))
          clear HF hbV
          go_wp2
          go_roundw
          case rel => first
            | exact ⟨_, _, k + 1, rfl, rfl, by omega, by first | rfl | go_num, by omega, by omega, HN.out, HB8.out⟩
            | (repeat apply Exists.intro
               refine ⟨?_, rfl⟩
               exact ⟨_, _, k + 1, rfl, rfl, by omega, by first | rfl | go_num, by omega, by omega, HN.out, HB8.out⟩)
          case measure => simp [intOf]; omega
    · obtain rfl : k = ns.length := by omega
      have hlm : ¬ (ns.length : Int) < (ns.length : Int) := by omega
      have HN := Lib.hid (show (x, y) = R by
        have h := HF.out
        rw [namedF_end (by have := HLP.out; omega)] at h
        exact h)
      have HBF := Lib.hid (below_then HB.out hb)
      clear hb HF
      go_wp2
      go_ret2
      have e := HN.out
      subst e
      exact ⟨rfl, HBF.out⟩

theorem eqlEntry22 (x y : Entry) (w : World) : (binOp .eql 80 (.agg x.vals.toArray) (.agg y.vals.toArray)).run Tryz.prog w = .ok (.bool (decide (x = y))) w := by
  by_cases h : x = y
  · rw [eql_same leafsEntry (by kernel_rfl) w _ _ (by rfl) (by rw [h]), decide_eq_true h]
  · rw [eql_other leafsEntry (by kernel_rfl) w _ _ (by rfl) (by rfl) (fun e => h (Entry.inj8 e)), decide_eq_false h]
theorem eqlEntryB22 (x : Entry) (g c : Int) (s : List UInt8) (w : World) : (binOp .eql 80 (.agg x.vals.toArray) (.agg #[.int .i64 g, .string (bs s), .int .i64 c, .bool false, .int .i64 0, .int .i64 0, .int .i64 0, .int .i64 0, .int .i64 0, .int .i64 0, .int .i64 0, .int .i64 0, .int .i64 0, .int .i64 0, .string ⟨#[]⟩])).run Tryz.prog w = .ok (.bool (decide (x = ⟨g, s, c, postZ8, []⟩))) w := eqlEntry22 x ⟨g, s, c, postZ8, []⟩ w
attribute [local go_sem ↓] eqlEntryB22

attribute [local go_sem] guardEntry

theorem At.takeRows {w : World} {sz : Nat} {A : Option Addr} {rows : List (List Value)} (h : At w sz A rows) (k : Nat) : At w sz A (rows.take k) := fun i r hr => by
  rw [List.getElem?_take] at hr
  split at hr
  · exact h i r hr
  · cases hr
theorem findGen_take {l : List Entry} {k : Nat} (hk : k < l.length) : (findGen (l.take k) l[k].name).2 = false ↔ findName l l[k].name = (k : Int) := by
  have hle : l.findIdx (fun x => x.name == l[k].name) ≤ k := by
    by_cases h : l.findIdx (fun x => x.name == l[k].name) ≤ k
    · exact h
    · have := List.not_of_lt_findIdx (show k < l.findIdx (fun x => x.name == l[k].name) by omega)
      simp at this
  have hf : findName l l[k].name = ((l.findIdx (fun x => x.name == l[k].name) : Nat) : Int) := by
    unfold findName
    rw [if_pos (by omega)]
  rw [hf]
  by_cases h : (l.take k).findIdx (fun x => x.name == l[k].name) < (l.take k).length
  · rw [findGen_some h]
    have h2 := List.findIdx_getElem (w := h)
    rw [List.length_take] at h
    rw [List.getElem_take] at h2
    have h3 : l.findIdx (fun x => x.name == l[k].name) ≤ (l.take k).findIdx (fun x => x.name == l[k].name) := by
      by_cases h4 : l.findIdx (fun x => x.name == l[k].name) ≤ (l.take k).findIdx (fun x => x.name == l[k].name)
      · exact h4
      · have := List.not_of_lt_findIdx (show (l.take k).findIdx (fun x => x.name == l[k].name) < l.findIdx (fun x => x.name == l[k].name) by omega)
        rw [h2] at this
        cases this
    constructor
    · intro h; cases h
    · intro h4; omega
  · rw [findGen_none h]
    refine ⟨fun _ => ?_, fun _ => rfl⟩
    by_cases h4 : l.findIdx (fun x => x.name == l[k].name) = k
    · rw [h4]
    · have hlt : l.findIdx (fun x => x.name == l[k].name) < k := by omega
      have h5 := List.findIdx_getElem (xs := l) (p := fun x => x.name == l[k].name) (w := by omega)
      exfalso
      apply h
      rw [List.findIdx_lt_length]
      refine ⟨l[l.findIdx (fun x => x.name == l[k].name)], ?_, h5⟩
      rw [List.mem_take_iff_getElem]
      exact ⟨_, by omega, rfl⟩
/-- a number of an error comes back: none, if something is so -/
def Forms (P : Prop) (w : World) (e : Ending) (w' : World) : Prop := ∃ v : Int, e = .returned (.int .i64 v) ∧ (v = 0 ∨ v = 14) ∧ (v = 0 ↔ P) ∧ Below w.heap.size w w'
theorem Forms.no {P : Prop} {w w' : World} (hn : ¬ P) (hb : Below w.heap.size w w') : Forms P w (.returned (.int .i64 14)) w' := ⟨14, rfl, .inr rfl, ⟨(fun h => by cases h), fun h => absurd h hn⟩, hb⟩
theorem Forms.yes {P : Prop} {w w' : World} (h : P) (hb : Below w.heap.size w w') : Forms P w (.returned (.int .i64 0)) w' := ⟨0, rfl, .inl rfl, ⟨fun _ => h, fun _ => rfl⟩, hb⟩
set_option maxRecDepth 20000 in
set_option maxHeartbeats 6400000 in
theorem nodeCheck_iff (A : Option Addr) (c : Nat) (l : List Entry) (w : World) (hl : l.length ≤ 70) (hc : l.length ≤ c) (hn : ∀ x ∈ l, x.name.length ≤ 300) (hA : At w 15 A (l.map Entry.vals)) :
    Calls Tryz.prog 121 #[.slice A l.length c] w (Forms (EntsOk l) w) := by
  have HA := Lib.hid hA
  clear hA
  go_enter Tryz.func121, Tryz.ntmps121
  go_wp2
  go_loopw [10] (fun i wr => ∃ k : Nat, k ≤ l.length ∧ i = .int .i64 k ∧ EntsK l k ∧ Below w.heap.size w wr) (fun i _ => l.length - (intOf i).toNat)
  case atStart => exact ⟨0, Nat.zero_le _, rfl, EntsK.zero _, Below.refl _ _⟩
  case round =>
    obtain ⟨k, hk, rfl, hG, hb⟩ := hrel
    by_cases hlk : k < l.length
    · have hAr := HA.out.below hb
      obtain ⟨b, off, rfl, hb1, r1, -⟩ := rowCell8 Entry.len (by omega) hAr hlk
      have bZ := Blk.new wr 80 l[k].vals
      have hba : Below wr.heap.size wr (wr.alloc (.cells l[k].vals.toArray 80)) := (Below.refl _ _).alloc (Nat.le_refl _) _
      have hA1 := hAr.below hba
      have hnk := hn l[k] (List.getElem_mem hlk)
      have hkp : k - 1 < l.length := by omega
      have hkl : (l.take k).length = k := by rw [List.length_take]; omega
      have HFT := Lib.hid (findGen_take hlk)
      have HPV := Lib.hid (fun (W : World) (h : Below w.heap.size w W) (_ : 0 < k) => (show W.cell? ⟨b, off + (k - 1) * 15 + 2, none⟩ = some (.int .i64 (l[k - 1]'hkp).cookie) by
        obtain ⟨b', o', e', -, -, hc'⟩ := rowCell8 Entry.len (by omega) (HA.out.below h) (k := k - 1) (by omega)
        injection e' with e'
        injection e' with e1 e2 _
        subst e1 e2
        exact hc' 2 (.int .i64 (l[k - 1]'hkp).cookie) rfl))
      have HIF := Lib.hid (fun (h : EntsOk l) => (show CondE l[k] (findName l l[k].name) (nameSt l[k].name) k (l[k - 1]'hkp).cookie from h k hlk))
      have HNX := Lib.hid (fun (h : CondE l[k] (findName l l[k].name) (nameSt l[k].name) k (l[k - 1]'hkp).cookie) => (show EntsK l (k + 1) from hG.next hlk h))
      have HB := Lib.hid (below_then hb hba)
      have KF := Lib.hid (fun W (h : Below w.heap.size w W) => (show Calls Tryz.prog 104 #[.slice (some ⟨b, off, none⟩) k c, .string (bs l[k].name)] W fun e w' => e = .returned (.tuple #[.int .i64 (findGen (l.take k) l[k].name).1, .bool (findGen (l.take k) l[k].name).2]) ∧ Below W.heap.size W w' by
        have := find20_any (some ⟨b, off, none⟩) c (l.take k) l[k].name W (by omega) (by rw [List.map_take]; exact (HA.out.below h).takeRows k)
        rw [hkl] at this
        exact this))
      have KN := Lib.hid (fun W => check4_any l[k].name W (by omega))
      clear hG hb hA1 hAr hnk
      generalize findName l l[k].name = F at *
      generalize nameSt l[k].name = N at *
      generalize hfg : findGen (l.take k) l[k].name = fg at *
      obtain ⟨fg1, tw⟩ := fg
      simp only at HFT KF
      have HLK := Lib.hid hlk
      have hk0 : (0 : Int) ≤ (k : Int) := Int.natCast_nonneg _
      have hk1 : (k : Int) < (l.length : Int) := by omega
      have hkc : (k : Int) ≤ (c : Int) := by omega
      generalize (l[k - 1]'hkp).cookie = pc at *
      generalize l[k] = x at *
      obtain ⟨w1, hw1⟩ : ∃ u, u = wr.alloc (.cells x.vals.toArray 80) := ⟨_, rfl⟩
      have HW1 := Lib.hid hw1
      rw [← hw1] at bZ HB
      clear hw1 hba hfg hkl
      go_upto_region 4 with (first
        | (refine wpList_store_new (by rfl) 80 _ _ (by rfl) x.vals (Entry.mk 0 [] 0 postZ8 []).vals wr 80 rfl (by rfl) (by rfl) (by rfl) (by kernel_rfl) (Entry.one _) ?_; rw [← HW1.out])
        | fail)
      have f0 : w1.cell? ⟨wr.heap.size, 0, none⟩ = some (.int .i64 x.gen) := bZ.cell 0
      have f1 : w1.cell? ⟨wr.heap.size, 1, none⟩ = some (.string (bs x.name)) := bZ.cell 1
      have f2 : w1.cell? ⟨wr.heap.size, 2, none⟩ = some (.int .i64 x.cookie) := bZ.cell 2
      have r0 : rowOf w1 wr.heap.size 0 15 = some x.vals.toArray := bZ.row 0 15 (by rw [Entry.len]; omega)
      have hlZ := bZ.lt
      obtain ⟨bare, hbare⟩ : ∃ b, b = decide (x = (⟨x.gen, x.name, x.cookie, postZ8, []⟩ : Entry)) := ⟨_, rfl⟩
      have HBA := Lib.hid (show bare = true ↔ x.fh = [] ∧ x.attr = postZ8 by
        rw [hbare, decide_eq_true_eq]
        constructor
        · intro h
          exact ⟨by rw [h], by rw [h]⟩
        · rintro ⟨h1, h2⟩
          obtain ⟨a1, a2, a3, a4, a5⟩ := x
          simp only at h1 h2
          subst h1 h2
          rfl)
      have HBE := Lib.hid hbare
      clear bZ r1 HW1 hbare
      go_upto_region 5 with fail
      rw [← HBE.out]
      clear HBE r0
      go_region_held3 (fun W => Stb w1 W) (first | exact Stb.start | assumption | (exact Stb.alloc (by assumption) _) | (exact Stb.call (by assumption) (by assumption))) (first | (go_at_call 104; refine (KF.out _ (HB.out.trans (Below.mono (Stb.below (by assumption)) HB.out.size))).mono ?_; rintro e w4 ⟨rfl, hb4⟩))
      rename_i hX
      have hst : Stb w1 w4 := hX
      clear hX hb4
      have hb := hst.below
      replace f0 := (hb.cell (p := ⟨wr.heap.size, 0, none⟩) hlZ).trans f0
      replace f1 := (hb.cell (p := ⟨wr.heap.size, 1, none⟩) hlZ).trans f1
      replace f2 := (hb.cell (p := ⟨wr.heap.size, 2, none⟩) hlZ).trans f2
      have HB4 := Lib.hid (below_then HB.out hb)
      have HP4 := Lib.hid (fun (h : 0 < k) => HPV.out w4 HB4.out h)
      clear hst hb KF HPV
      cases bare
      case false =>
        have HQ := Lib.hid (show ¬ EntsOk l from fun h => by have := HBA.out.2 ⟨(HIF.out h).2.2.1, (HIF.out h).2.2.2.1⟩; cases this)
        clear HIF HNX HP4
        go_wp2_with fail
        go_quiet (first
          | (go_at_call_of 102 (x.name); refine Calls.quiet_of (quiet20 (KN.out _))))
        all_goals
          go_wp2
          go_ret
          exact Forms.no HQ.out (bdN HB4.out _)
      cases tw
      case true =>
        have HQ := Lib.hid (show ¬ EntsOk l from fun h => by have := HFT.out.2 (HIF.out h).2.2.2.2.1; cases this)
        clear HIF HNX HP4
        go_wp2_with fail
        go_quiet (first
          | (go_at_call_of 102 (x.name); refine Calls.quiet_of (quiet20 (KN.out _))))
        all_goals
          go_wp2
          go_ret
          exact Forms.no HQ.out (bdN HB4.out _)
      by_cases q0 : x.gen < 1
      case pos =>
        have d0 : decide (x.gen < 1) = true := decide_eq_true q0
        have HQ := Lib.hid (show ¬ EntsOk l from fun h => absurd (HIF.out h).1 (by omega))
        clear q0
        clear HIF HNX HP4
        go_wp2_with fail
        go_quiet (first
          | (go_at_call_of 102 (x.name); refine Calls.quiet_of (quiet20 (KN.out _))))
        all_goals
          go_wp2
          go_ret
          exact Forms.no HQ.out (bdN HB4.out _)
      have d0 : decide (x.gen < 1) = false := decide_eq_false q0
      by_cases q1 : x.cookie < 1
      case pos =>
        have d1 : decide (x.cookie < 1) = true := decide_eq_true q1
        have HQ := Lib.hid (show ¬ EntsOk l from fun h => absurd (HIF.out h).2.1 (by omega))
        clear q0 q1
        clear HIF HNX HP4
        go_wp2_with fail
        go_quiet (first
          | (go_at_call_of 102 (x.name); refine Calls.quiet_of (quiet20 (KN.out _))))
        all_goals
          go_wp2
          go_ret
          exact Forms.no HQ.out (bdN HB4.out _)
      have d1 : decide (x.cookie < 1) = false := decide_eq_false q1
      by_cases q6 : 0 < k
      · have d6 : decide ((0 : Int) < (k : Int)) = true := decide_eq_true (by omega)
        have hp := HP4.out q6
        have hwp : IntKind.i64.wrap ((k : Int) - 1) = ((k - 1 : Nat) : Int) := by rw [IntWalk.i64_in _ (by omega)]; omega
        have hkq : ((k - 1 : Nat) : Int) < (l.length : Int) := by omega
        have hkq0 : (0 : Int) ≤ ((k - 1 : Nat) : Int) := Int.natCast_nonneg _
        by_cases q7 : x.cookie ≤ pc
        case pos =>
          have d7 : decide (x.cookie ≤ pc) = true := decide_eq_true q7
          have HQ := Lib.hid (show ¬ EntsOk l from fun h => absurd ((HIF.out h).2.2.2.2.2.2 q6) (by omega))
          clear q0 q1 q7
          clear HIF HNX HP4
          go_wp2_with fail
          go_quiet (first
            | (go_at_call_of 102 (x.name); refine Calls.quiet_of (quiet20 (KN.out _))))
          all_goals
            go_wp2
            go_ret
            exact Forms.no HQ.out (bdN HB4.out _)
        have d7 : decide (x.cookie ≤ pc) = false := decide_eq_false q7
        by_cases q5 : N = 0
        case neg =>
          have d5 : (N != 0) = true := by simpa using q5
          have HQ := Lib.hid (show ¬ EntsOk l from fun h => q5 (HIF.out h).2.2.2.2.2.1)
          clear q0 q1 q5 q7
          clear HIF HNX HP4
          go_wp2_with fail
          go_quiet (first
            | (go_at_call_of 102 (x.name); refine Calls.quiet_of (quiet20 (KN.out _))))
          all_goals
            go_wp2
            go_ret
            exact Forms.no HQ.out (bdN HB4.out _)
        have d5 : (N != 0) = false := by simpa using q5
        have HN := Lib.hid (HNX.out ⟨by omega, by omega, (HBA.out.1 rfl).1, (HBA.out.1 rfl).2, HFT.out.1 rfl, q5, fun _ => by omega⟩)
        clear q0 q1 q5 q7 HNX HIF
        go_wp2_with fail
        go_quiet (first
          | (go_at_call_of 102 (x.name); refine Calls.quiet_of (quiet20 (KN.out _))))
        all_goals
          go_wp2
          go_roundw
          case rel => exact ⟨k + 1, by have := HLK.out; omega, by go_num, HN.out, bdN HB4.out _⟩
          case measure => have := HLK.out; simp [intOf]; omega
      · have d6 : decide ((0 : Int) < (k : Int)) = false := decide_eq_false (by omega)
        by_cases q5 : N = 0
        case neg =>
          have d5 : (N != 0) = true := by simpa using q5
          have HQ := Lib.hid (show ¬ EntsOk l from fun h => q5 (HIF.out h).2.2.2.2.2.1)
          clear q0 q1 q5
          clear HIF HNX HP4
          go_wp2_with fail
          go_quiet (first
            | (go_at_call_of 102 (x.name); refine Calls.quiet_of (quiet20 (KN.out _))))
          all_goals
            go_wp2
            go_ret
            exact Forms.no HQ.out (bdN HB4.out _)
        have d5 : (N != 0) = false := by simpa using q5
        have HN := Lib.hid (HNX.out ⟨by omega, by omega, (HBA.out.1 rfl).1, (HBA.out.1 rfl).2, HFT.out.1 rfl, q5, fun h => absurd h q6⟩)
        clear q0 q1 q5 HNX HIF
        go_wp2_with fail
        go_quiet (first
          | (go_at_call_of 102 (x.name); refine Calls.quiet_of (quiet20 (KN.out _))))
        all_goals
          go_wp2
          go_roundw
          case rel => exact ⟨k + 1, by have := HLK.out; omega, by go_num, HN.out, bdN HB4.out _⟩
          case measure => have := HLK.out; simp [intOf]; omega
    · obtain rfl : k = l.length := by omega
      have HG := Lib.hid hG.all
      have hk1 : ¬ (l.length : Int) < (l.length : Int) := by omega
      clear hG hlk
      go_wp2
      go_ret
      exact Forms.yes HG.out hb
end Go.Proofs.YtgifmpobokaejaaGreatDoor
