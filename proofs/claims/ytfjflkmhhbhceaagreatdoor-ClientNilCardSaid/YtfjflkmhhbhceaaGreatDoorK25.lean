/-
  Layer 33: how steps, and bytes that are written, came in; the tables that are laid. No condition.
-/
import Derived.Test.YtfjflkmhhbhceaaGreatDoorK21
import Derived.Test.YtfjflkmhhbhceaaGreatDoorK23
import Derived.Test.YtfjflkmhhbhceaaGreatDoorK24
import Derived.Test.YtfjflkmhhbhceaaGreatDoorRows
import Derived.Shelf.Vars
import Derived.MakeChecks
import Derived.Lib.LaidTab
import Derived.Stop.LaidErr
namespace Go.Proofs.YtfjflkmhhbhceaaGreatDoor
open Go.ChangeShapes Go.WideShapes Go.ChangeAt Go.RowKit Go.Deep
/-- a step that came in, with the rows of its results -/
structure StepR where
  s : Step
  es : List Entry
  us : List Int
def StepR.rep (x : StepR) : RepL := ⟨x.s.r, x.es, x.us⟩
def StepR.vals (x : StepR) : List Value := x.s.vals
theorem StepR.len (x : StepR) : x.vals.length = 94 := Step.len x.s
instance : Inhabited StepR := ⟨⟨⟨0, ⟨0, 0, 0, 0, 0, 0, ⟨0, [], [], [], [], 0, 0, 0, [], ⟨⟨false, 0⟩, ⟨false, 0⟩, ⟨false, 0⟩, ⟨false, 0⟩, ⟨false, 0⟩⟩, ⟨false, 0⟩, 0, 0, []⟩⟩, ⟨0, 0, []⟩, ⟨0, [], postZ8, postZ8, ⟨⟨false, 0⟩, postZ8⟩, ⟨⟨false, 0⟩, postZ8⟩, 0, 0, false, [], 0, 0, none, 0, 0, none, 0, 0⟩, 0, 0⟩, [], []⟩⟩
/-- what is known of a step that came in -/
structure StepG (x : StepR) : Prop where
  kind : (Lit.int .i64 x.s.kind).wf = true
  ask : x.s.a.good
  packet : x.s.p.good
  from_ : (Lit.int .i64 x.s.from_).wf = true
  now : (Lit.int .i64 x.s.now).wf = true
section
variable {H : Type} {enc : TypeId × Value → H} {w : World} {base : Nat} {spare : Nat → Bool} {held : Bool} {fuel : Nat} {cs : List Value} {x : DataW H × List MemPlace}
theorem sub_field_places {P : Program} {t e : TypeId} {fs : Array Field} {fuel : Nat} {cs : List Value} {x : DataW H × List MemPlace} (ht : P.underlying t = some (.struct fs)) (h : DataW.trod enc P w base spare held fuel t cs = some x)
    (i o k : Nat) (f : Field) (hi : fs[i]? = some f) (hT : f.type = e) (ho : f.offset = o) (hc : P.cellsOf e = k) : ∃ ps m y, cs.drop o = ps ++ cs.drop (o + k) ∧ DataW.trod enc P w base spare held m e ps = some y ∧ ∀ p ∈ y.2, p ∈ x.2 := by
  obtain ⟨xs, m, _, hx, _, hlen, hf⟩ := DataW.trod_struct ht h
  have hi' : i < xs.length := by rw [hlen]; exact (Array.getElem?_eq_some_iff.1 hi).1
  have hy := (hf i f hi).trans (List.getElem?_eq_getElem hi')
  have hpl : ∀ p ∈ xs[i].2, p ∈ x.2 := fun p hp => by rw [hx]; exact List.mem_flatMap.2 ⟨_, List.getElem_mem hi', hp⟩
  subst hT ho
  rw [hc] at hy
  exact ⟨_, m, _, drop_take rfl, hy, hpl⟩
theorem open_Packet (h : DataW.trod enc Tryz.prog w base spare held fuel 40 cs = some x) : ∃ a : Packet, cs = a.vals ∧ a.good := by
  have hl : cs.length = 3 := (len_of Tryz.underlying40 h).trans (by kernel_rfl)
  obtain ⟨z0, h0, g0⟩ := int_field Tryz.underlying40 h 0 0 _ rfl (e := 3) rfl rfl (by kernel_rfl) Tryz.underlying3
  obtain ⟨z1, h1, g1⟩ := int_field Tryz.underlying40 h 1 1 _ rfl (e := 3) rfl rfl (by kernel_rfl) Tryz.underlying3
  obtain ⟨z2, h2, g2⟩ := string_field Tryz.underlying40 h 2 2 _ rfl (e := 9) rfl rfl (by kernel_rfl) Tryz.underlying9
  have hend : cs.drop 3 = [] := List.drop_of_length_le (by omega)
  have e : cs = cs.drop 0 := rfl
  simp only [Nat.reduceAdd] at h0 h1 h2
  refine ⟨⟨z0, z1, z2.data.toList⟩, e.trans ?_, ⟨g0, g1, by simpa using g2⟩⟩
  rw [h0, h1, h2, hend]
  simp only [Packet.vals, bs_list]

theorem open_Ask (h : DataW.trod enc Tryz.prog w base spare held fuel 38 cs = some x) : ∃ a : Ask, cs = a.vals ∧ a.good := by
  have hl : cs.length = 30 := (len_of Tryz.underlying38 h).trans (by kernel_rfl)
  obtain ⟨z0, h0, g0⟩ := int_field Tryz.underlying38 h 0 0 _ rfl (e := 3) rfl rfl (by kernel_rfl) Tryz.underlying3
  obtain ⟨z1, h1, g1⟩ := int_field Tryz.underlying38 h 1 1 _ rfl (e := 3) rfl rfl (by kernel_rfl) Tryz.underlying3
  obtain ⟨z2, h2, g2⟩ := int_field Tryz.underlying38 h 2 2 _ rfl (e := 3) rfl rfl (by kernel_rfl) Tryz.underlying3
  obtain ⟨z3, h3, g3⟩ := int_field Tryz.underlying38 h 3 3 _ rfl (e := 3) rfl rfl (by kernel_rfl) Tryz.underlying3
  obtain ⟨z4, h4, g4⟩ := int_field Tryz.underlying38 h 4 4 _ rfl (e := 3) rfl rfl (by kernel_rfl) Tryz.underlying3
  obtain ⟨z5, h5, g5⟩ := int_field Tryz.underlying38 h 5 5 _ rfl (e := 3) rfl rfl (by kernel_rfl) Tryz.underlying3
  obtain ⟨ps6, m6, y6, h6, hs6⟩ := sub_field Tryz.underlying38 h 6 6 24 _ rfl (e := 36) rfl rfl (by kernel_rfl)
  obtain ⟨z6, rfl, g6⟩ := open_Call hs6
  have hend : cs.drop 30 = [] := List.drop_of_length_le (by omega)
  have e : cs = cs.drop 0 := rfl
  simp only [Nat.reduceAdd] at h0 h1 h2 h3 h4 h5 h6
  refine ⟨⟨z0, z1, z2, z3, z4, z5, z6⟩, e.trans ?_, ⟨g0, g1, g2, g3, g4, g5, g6⟩⟩
  rw [h0, h1, h2, h3, h4, h5, h6, hend]
  rfl


theorem open_step (hlt : ∀ p ∈ x.2, p.block < w.heap.size) (h : DataW.trod enc Tryz.prog w base spare held fuel 53 cs = some x) : ∃ a : StepR, cs = a.vals ∧ StepG a ∧ a.rep.There w := by
  have hl : cs.length = 94 := (len_of Tryz.underlying53 h).trans (by kernel_rfl)
  obtain ⟨z0, h0, g0⟩ := int_field Tryz.underlying53 h 0 0 _ rfl (e := 3) rfl rfl (by kernel_rfl) Tryz.underlying3
  obtain ⟨ps1, m1, y1, h1, hs1⟩ := sub_field Tryz.underlying53 h 1 1 30 _ rfl (e := 38) rfl rfl (by kernel_rfl)
  obtain ⟨z1, rfl, g1⟩ := open_Ask hs1
  obtain ⟨ps2, m2, y2, h2, hs2⟩ := sub_field Tryz.underlying53 h 2 31 3 _ rfl (e := 40) rfl rfl (by kernel_rfl)
  obtain ⟨z2, rfl, g2⟩ := open_Packet hs2
  obtain ⟨ps3, m3, y3, h3, hs3, hy3⟩ := sub_field_places Tryz.underlying53 h 3 34 58 _ rfl (e := 51) rfl rfl (by kernel_rfl)
  obtain ⟨z3, rfl, -, g3⟩ := open_reply (fun p hp => hlt p (hy3 p hp)) hs3
  obtain ⟨z4, h4, g4⟩ := int_field Tryz.underlying53 h 4 92 _ rfl (e := 3) rfl rfl (by kernel_rfl) Tryz.underlying3
  obtain ⟨z5, h5, g5⟩ := int_field Tryz.underlying53 h 5 93 _ rfl (e := 3) rfl rfl (by kernel_rfl) Tryz.underlying3
  have hend : cs.drop 94 = [] := List.drop_of_length_le (by omega)
  have e : cs = cs.drop 0 := rfl
  simp only [Nat.reduceAdd] at h0 h1 h2 h3 h4 h5
  obtain ⟨r, es, us⟩ := z3
  refine ⟨⟨⟨z0, z1, z2, r, z4, z5⟩, es, us⟩, e.trans ?_, ⟨g0, g1, g2, g4, g5⟩, g3⟩
  rw [h0, h1, h2, h3, h4, h5, hend]
  rfl
theorem open_steps (hlt : ∀ p ∈ x.2, p.block < w.heap.size) {A : Option Addr} {n c : Nat} (h : DataW.trod enc Tryz.prog w base spare held fuel 22 [.slice A n c] = some x) :
    ∃ l : List StepR, n = l.length ∧ n ≤ maxLen ∧ At w 94 A (l.map StepR.vals) ∧ ∀ a ∈ l, StepG a ∧ a.rep.There w := by
  obtain ⟨l, rfl, hA, hg⟩ := rows_of (α := StepR) (sz := 94) Tryz.underlying22 (by kernel_rfl) (by omega) StepR.vals (fun a => StepG a ∧ a.rep.There w) hlt (fun _ _ _ hp ht => by
    obtain ⟨a, h1, h2, h3⟩ := open_step hp ht
    exact ⟨a, h1, h2, h3⟩) h
  exact ⟨l, rfl, slice_len Tryz.underlying22 h, hA, hg⟩
end
theorem tab_of33 {W : World} {rest : List (String × DataW Unit)} (h : laidMet Tryz.prog (("internal/strconv.uint64pow10", Rows.laid_internal_strconv_uint64pow10) :: rest) W) : Lib.TabIs Tryz.prog W "internal/strconv.uint64pow10" .u64 Lib.pow10Tab := by
  have e : (Rows.laid_internal_strconv_uint64pow10 : DataW Unit) = Lib.tabData .u64 Lib.pow10Tab := by
    have e2 : Lib.pow10Tab = [1, 10, 100, 1000, 10000, 100000, 1000000, 10000000, 100000000, 1000000000, 10000000000, 100000000000, 1000000000000, 10000000000000, 100000000000000, 1000000000000000, 10000000000000000, 100000000000000000, 1000000000000000000, 10000000000000000000] := by decide +kernel
    rw [e2]; rfl
  rw [e] at h
  exact Lib.tabIs_of_head (g := 0) (by kernel_rfl) (by kernel_rfl) (Tryz.underlying269) Tryz.underlying202 (by kernel_rfl) (by kernel_rfl) h
/-- a row that lays the two tables of bits, the table of tens' powers, and others -/
theorem tabLaid_of {W : World} {a b : String × DataW Unit} {rest : List (String × DataW Unit)} (h : laidMetH Tryz.prog (a :: b :: ("internal/strconv.uint64pow10", Rows.laid_internal_strconv_uint64pow10) :: rest) W)
    (hp : ((a :: b :: ("internal/strconv.uint64pow10", (Rows.laid_internal_strconv_uint64pow10 : DataW Unit)) :: rest).all fun x => x.2.handleName?.isNone) = true) : TabLaid W := by
  rw [MakeChecks.laidMetH_plain _ _ _ hp] at h
  have ht := tab_of33 (laidMet.tail (laidMet.tail h))
  exact fun V hb => Lib.tabBelow_of_tabIs ht V hb
end Go.Proofs.YtfjflkmhhbhceaaGreatDoor
