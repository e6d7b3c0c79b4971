/-
  Layer 33, walks: what a client sends is answered, on and on (the law's own function). Condition: its calls are such that write, read or close.
-/
import Derived.Test.YtfjflkmhhbhceaaGreatDoorW39
import Derived.Test.YtfjflkmhhbhceaaGreatDoorW43
import Derived.Test.YtfjflkmhhbhceaaGreatDoorW31
import Derived.Test.YtfjflkmhhbhceaaGreatDoorW44
import Derived.Test.YtfjflkmhhbhceaaGreatDoorW46
import Derived.Deep.CutRange
namespace Go.Proofs.YtfjflkmhhbhceaaGreatDoor
open Go.RowKit
open Go.RowKit
attribute [local go_sem ↓] Go.wp_at_zero Go.wp_at_succ
attribute [local go_sem] rowAt_ptr rowOf_drew rowOf_drewN rowOf_alloc_past rowOf_new
attribute [local go_sem ↓] st33Call st33Message ld33Call ld33Message

attribute [local go_sem] thereB_drew thereB_drewN thereB_new thereB_past putsW_drew putsW_new putsW_past rowOf_far rowOf_putsFar cell_putsFar putsW_size ptrAt blkAt offAt allV33 oneV33 cellsOf_agg

attribute [local go_sem low] rowV33_agg

attribute [local go_sem] putsW_call putsW_message Call.len Message.len rowV33_call rowV33_message

theorem Since.take {w0 w : World} {g : Nat} {c : ClD} (h : Since w0 g c w) (hL : TabLaid w0) (hG : ClGood c) (hrl : c.recs.length ≤ 1000000) (hbr : c.busy = true → c.recs ≠ []) (x : Packet) (step now : Int) (hbl : (getM9 x.data).1.body.length ≤ 9223372036854775807) :
    Calls Tryz.prog 13 #[.pointer (some ⟨g, 0, none⟩), .agg x.vals.toArray, .int .i64 step, .int .i64 now] w fun e w' => ∃ A cap, e = .returned (.slice A (c.take x step now).2.length cap) ∧ RowS w' w.heap.size 40 3 (.slice A (c.take x step now).2.length cap) ((c.take x step now).2.map Packet.vals) ∧ Since w0 g (c.take x step now).1 w' ∧ w.heap.size ≤ w'.heap.size := by
  obtain ⟨F, z, l, h1, h2, h3⟩ := h
  refine (take33_any F w g c z l h1 hG ⟨w0, hL, h3, h2⟩ hrl hbr x step now hbl).mono ?_
  rintro e w' ⟨v, rfl, hrow, ⟨G, z', l', hC, hGk⟩, ht⟩
  obtain ⟨A, cap, rfl, -⟩ := hrow.at_
  rw [List.length_map] at hrow ⊢
  have hs := h3.size
  exact ⟨A, cap, rfl, hrow, ⟨G, z', l', hC, fun k hk => by rcases hGk k hk with h | h; exact h2 k h; omega, h3.trans (ht.below (fun k _ hk => h2 k hk) hs)⟩, ht.size⟩
theorem rdW_is {s : List UInt8} {m : Message} {x : Call} (h : rdW s = some (m, x)) : getM9 s = (m, 0) ∧ m.answer = false ∧ dGet m.proc m.body = (x, true) := by
  unfold rdW at h
  split at h
  · cases h
  · rename_i h1
    simp only [not_or, Decidable.not_not, Bool.not_eq_true, Bool.not_eq_false] at h1
    have h2 := Option.some.inj h
    obtain ⟨h3, h4⟩ := Prod.mk.inj h2
    subst h3 h4
    exact ⟨Prod.ext rfl h1.1, h1.2.1, Prod.ext rfl h1.2.2⟩
theorem in32_ans {m : Message} (h0 : 0 ≤ m.xid) (h1 : m.xid ≤ 4294967295) : in32 (ansM m).nums = true := by
  show (decide (0 ≤ m.xid) && decide (m.xid ≤ 4294967295) && _) = true
  simp [h0, h1, ansM]
/-- what the law's 'answered' gives -/
def AnsP33 (w0 : World) (g : Nat) (R : ClD × List UInt8 × Nat × Bool) (e : Ending) (w' : World) : Prop :=
  e = .returned (.tuple #[.string (bs R.2.1), .int .i64 ((R.2.2.1 : Nat) : Int), .bool R.2.2.2]) ∧ Since w0 g R.1 w' ∧ ClGood R.1 ∧ R.2.1.length ≤ 1024
set_option maxRecDepth 20000 in
set_option maxHeartbeats 6400000 in
theorem answered33_any (w0 w : World) (g : Nat) (c : ClD) (out : List Packet) (A : Option Addr) (cap : Nat) (d : List UInt8) (hS : Since w0 g c w) (hL : TabLaid w0) (hA : Asked0 c out) (hO : At w 3 A (out.map Packet.vals)) (hd : d.length ≤ 1024) :
    Calls Tryz.prog 19 #[.pointer (some ⟨g, 0, none⟩), .slice A out.length cap, .string (bs d)] w (AnsP33 w0 g (answeredC rdW anW 6 c out d 0)) := by
  obtain ⟨R, hR⟩ : ∃ R, R = answeredC rdW anW 6 c out d 0 := ⟨_, rfl⟩
  have HS := Lib.hid (And.intro hS (And.intro hA hO))
  have HL := Lib.hid hL
  rw [← hR]
  have HR := Lib.hid hR.symm
  clear hS hA hO hR hL
  go_enter Tryz.func19, Tryz.ntmps19
  go_wp2
  go_loopw [1, 2, 9, 10] (fun o dv nv kv wr => ∃ (k : Nat) (c1 : ClD) (out1 : List Packet) (A1 : Option Addr) (cap1 : Nat) (d1 : List UInt8) (n1 : Nat), k ≤ 6 ∧ o = .slice A1 out1.length cap1 ∧ dv = .string (bs d1) ∧ nv = .int .i64 (n1 : Int) ∧ kv = .int .i64 (k : Int) ∧ n1 ≤ 256 * k ∧ d1.length ≤ 1024 ∧ Asked0 c1 out1 ∧ At wr 3 A1 (out1.map Packet.vals) ∧ Since w0 g c1 wr ∧ answeredC rdW anW (6 - k) c1 out1 d1 n1 = R) (fun _ _ _ kv _ => 6 - (intOf kv).toNat)
  case atStart => exact ⟨0, c, out, A, cap, d, 0, by omega, rfl, rfl, rfl, rfl, by omega, hd, HS.out.2.1, HS.out.2.2, HS.out.1, HR.out⟩
  case round =>
    obtain ⟨k, c1, out1, A1, cap1, d1, n1, hk, rfl, rfl, rfl, rfl, hn1, hd1, hAs, hO1, hS1, hRk⟩ := hrel
    obtain ⟨c0, s0, now0, hW0, hc1, ho1⟩ := hAs
    have hfin : out1 = [] ∨ k = 6 → R = (c1, d1, n1, out1.isEmpty) := by
      rintro (h | h)
      · rw [← hRk, h]
        cases 6 - k <;> rfl
      · rw [← hRk, h]; rfl
    have hg1 : ClGood c1 := by rw [hc1]; exact next_good hW0.good _ _
    by_cases hend : out1 = [] ∨ k = 6
    · have HF := Lib.hid (And.intro (hfin hend) (And.intro hS1 (And.intro hg1 hd1)))
      have hlen : (((out1.length : Nat) : Int) == 0) = out1.isEmpty := by
        cases out1 with
        | nil => rfl
        | cons a l => simp; omega
      have hcase : (¬ (k : Int) < 6) ∨ ((k : Int) < 6 ∧ ((out1.length : Nat) : Int) = 0) := by
        rcases hend with h | h
        · by_cases h6 : (k : Int) < 6
          · exact .inr ⟨h6, by rw [h]; rfl⟩
          · exact .inl h6
        · exact .inl (by omega)
      clear hfin hS1 hg1 hRk hO1 ho1 hend
      rcases hcase with h6 | ⟨h6, h0⟩
      · go_wp2
        go_ret3
        obtain ⟨h1, h2, h3, h4⟩ := HF.out
        rw [h1]
        exact ⟨rfl, h2, h3, h4⟩
      · have ho : out1 = [] := List.eq_nil_of_length_eq_zero (by omega)
        subst ho
        clear h0
        go_wp2
        go_ret3
        obtain ⟨h1, h2, h3, h4⟩ := HF.out
        rw [h1]
        exact ⟨rfl, h2, h3, h4⟩
    · have hne : out1 ≠ [] := fun h => hend (.inl h)
      have hk6 : k ≠ 6 := fun h => hend (.inr h)
      rcases hW0.next (s := s0) (now := now0) with ⟨-, h⟩ | ⟨p, l, hp, hpw, e2, e3, e4, e5, e6, e7, e8, e9⟩
      · rw [h] at ho1; exact absurd ho1 hne
      rw [e2] at ho1
      rw [← hc1] at e3 e4 e5 e6 e7 e8 e9
      obtain ⟨f1, f2⟩ := faithW c0 p hpw hW0.handle hW0.id hW0.made0 (by have := hW0.made1; rw [hp, List.length_cons] at this; omega)
      obtain ⟨c2, et, hW2⟩ := e9 anW f2
      have hgm := (rdW_is f1)
      have hm1 := hW0.made1
      have hm0 := hW0.made0
      rw [hp, List.length_cons] at hm1
      have hsend := sends_ok hpw hW0.handle
      have hpk : (c0.packet p).data = putBytes (c0.message p) := rfl
      have hmp : (c0.message p).proc = p.c.proc := rfl
      have hmx : (c0.message p).xid = c0.made + 1 := rfl
      have hx3 : (c0.sends p).proc = p.c.proc := hsend.2.1
      have hxo : 0 ≤ (c0.sends p).offset ∧ (c0.sends p).offset ≤ 1024 ∧ (c0.sends p).data.length ≤ 256 := by
        rw [hsend.2.2.1, hsend.2.2.2]
        obtain ⟨-, -, -, -, ⟨o, t, e, h1, h3, h2⟩ | ⟨o, n, e, h1, h3, -⟩ | e⟩ := hpw
        · rw [e]; exact ⟨h1, h3, h2⟩
        · rw [e]; exact ⟨h1, h3, Nat.zero_le _⟩
        · rw [e]; exact ⟨by show (0 : Int) ≤ 0; decide, by show (0 : Int) ≤ 1024; decide, Nat.zero_le _⟩
      have hstep : answeredC rdW anW (6 - (k + 1)) (c2.next 1 0).1 (c2.next 1 0).2 (if (c0.message p).proc = 7 then (nWrite d1 (c0.sends p).offset (c0.sends p).data).1 else d1) (if (c0.message p).proc = 7 then n1 + (c0.sends p).data.length else n1) = R := by
        rw [← hRk, ho1, show 6 - k = (6 - (k + 1)) + 1 by omega]
        simp only [answeredC]
        rw [hpk, f1]
        simp only [ne_eq, not_true_eq_false, if_false]
        rw [et]
      have hK : Asked0 (c2.next 1 0).1 (c2.next 1 0).2 := ⟨c2, 1, 0, hW2, rfl, rfl⟩
      have hp3 := hpw.proc
      rw [← hmp] at hp3
      have hbod : (c0.message p).body.length ≤ 1000000000000000000 := by
        have h := (laidW hsend.1 (sends_kind hpw hW0.handle)).1
        show (cPut (c0.sends p)).1.length ≤ _
        omega
      obtain ⟨pk, hpkd⟩ : ∃ x, x = c0.packet p := ⟨_, rfl⟩
      obtain ⟨m, hm⟩ : ∃ x, x = c0.message p := ⟨_, rfl⟩
      obtain ⟨x, hx⟩ : ∃ x, x = c0.sends p := ⟨_, rfl⟩
      rw [← hpkd] at ho1 hpk
      rw [← hm] at hgm hp3 hstep hmx et f2 hpk hbod
      rw [← hx] at hgm hstep hxo
      rw [← hpk] at hgm
      have hzb : (ansM m).body.length ≤ 600 := (zeroBody_len m.proc (by rcases hp3 with h | h | h <;> rw [h] <;> simp)).1
      have hbl : (getM9 (anW m)).1.body.length ≤ 9223372036854775807 := by rw [f2]; show (ansM m).body.length ≤ _; omega
      subst ho1
      obtain ⟨b, off, rfl, hbw, hcell⟩ := hO1 0 pk.vals rfl
      have k2 : wr.cell? ⟨b, off + 2, none⟩ = some (.string (bs pk.data)) := by have := hcell 2 _ rfl; simpa using this
      have hk1 : (k : Int) < 6 := by omega
      have hkw : IntKind.i64.wrap ((k : Int) + 1) = ((k + 1 : Nat) : Int) := by rw [IntWalk.i64_in _ (by omega)]; omega
      have KT := Lib.hid (fun W (h : Since w0 g c1 W) => h.take HL.out e8 e7 (fun _ => e6) ⟨1, 5, anW m⟩ 1 0 hbl)
      rw [et] at KT
      have HST := Lib.hid (And.intro hstep (And.intro hK (And.intro hS1 (And.intro hgm (And.intro hp3 (And.intro hxo (And.intro hmx (And.intro hm1 (And.intro hm0 (And.intro hzb hbod))))))))))
      clear hfin hS1 hg1 hRk hcell hstep hK hgm hp3 hxo hmx hm1 hm0 hzb hbod hbl hO1 e2 e3 e4 e5 e6 e7 e8 e9 f1 f2 et hpk hmp hx3 hsend hpw hW2 hW0 hc1 hend hne hpkd hm hx hp
      go_wp2_with fail
      refine (refGet9_any pk.data _).mono ?_
      rintro e w2 ⟨rfl, hb2⟩
      rw [refG_get, HST.out.2.2.2.1.1, show gotV9 (m, 0) = .tuple #[.agg m.vals.toArray, .int .i64 0] from rfl]
      have bM := Blk.new w2 81 m.vals
      have hb3 : Below w2.heap.size w2 (w2.alloc (.cells m.vals.toArray 81)) := (Below.refl _ _).alloc (Nat.le_refl _) _
      obtain ⟨w3, hw3⟩ : ∃ V, V = w2.alloc (.cells m.vals.toArray 81) := ⟨_, rfl⟩
      rw [← hw3] at bM hb3
      have HW3 := Lib.hid hw3
      have HB3 := Lib.hid (below_then hb2 hb3)
      have HM := Lib.hid bM
      have m3 : w3.cell? ⟨w2.heap.size, 3, none⟩ = some (.int .i64 m.proc) := bM.cell 3
      have m9 : w3.cell? ⟨w2.heap.size, 9, none⟩ = some (.string (bs m.body)) := bM.cell 9
      have KG := Lib.hid (fun W => refGet7_any m.proc m.body W HST.out.2.2.2.2.2.2.2.2.2.2)
      rw [HST.out.2.2.2.1.2.2] at KG
      clear hw3 hb3 bM hb2 k2
      go_upto_region 6 with fail
      change Code.wp _ _ _ _ (w2.alloc (.cells m.vals.toArray 81))
      rw [← HW3.out]
      go_wp2_with fail
      refine (KG.out _).mono ?_
      rintro e w4 ⟨rfl, hb4⟩
      have hM4 := HM.out.stays hb4
      have bX := Blk.new w4 36 x.vals
      have hb5 : Below w4.heap.size w4 (w4.alloc (.cells x.vals.toArray 36)) := (Below.refl _ _).alloc (Nat.le_refl _) _
      obtain ⟨w5, hw5⟩ : ∃ V, V = w4.alloc (.cells x.vals.toArray 36) := ⟨_, rfl⟩
      rw [← hw5] at bX hb5
      have HW5 := Lib.hid hw5
      have hM5 := hM4.stays hb5
      have HB5 := Lib.hid (below_then (below_then HB3.out hb4) hb5)
      have n0 : w5.cell? ⟨w2.heap.size, 0, none⟩ = some (.int .i64 m.xid) := hM5.cell 0
      have n1' : w5.cell? ⟨w2.heap.size, 1, none⟩ = some (.bool false) := by rw [hM5.cell 1, ← HST.out.2.2.2.1.2.1]; rfl
      have n3 : w5.cell? ⟨w2.heap.size, 3, none⟩ = some (.int .i64 m.proc) := hM5.cell 3
      have x5 : w5.cell? ⟨w4.heap.size, 5, none⟩ = some (.int .i64 x.offset) := bX.cell 5
      have x8 : w5.cell? ⟨w4.heap.size, 8, none⟩ = some (.string (bs x.data)) := bX.cell 8
      have hl2 : w2.heap.size < w5.heap.size := hM5.lt
      have hl4 : w4.heap.size < w5.heap.size := bX.lt
      have hbs := bs_size x.data
      clear hw5 hb4 hb5 hM4 hM5 bX m3 m9 KG HM HW3 HB3
      go_upto_region 7 with fail
      change Code.wp _ _ _ _ (w4.alloc (.cells x.vals.toArray 36))
      rw [← HW5.out]
      obtain ⟨q1, q2, q3, q4, q5, q6, q7, q8, q9, q10, q11⟩ := HST.out
      have hxo := q6
      have hp3 := q5
      clear q1 q2 q3 q4 q5 q6 q7 q8 q9 q10 q11
      have hnw : IntKind.i64.wrap ((n1 : Int) + ((x.data.length : Nat) : Int)) = ((n1 + x.data.length : Nat) : Int) := by rw [IntWalk.i64_in _ (by omega)]; omega
      obtain ⟨d2, hd2⟩ : ∃ y, y = (if m.proc = 7 then (nWrite d1 x.offset x.data).1 else d1) := ⟨_, rfl⟩
      obtain ⟨n2, hn2⟩ : ∃ y, y = (if m.proc = 7 then n1 + x.data.length else n1) := ⟨_, rfl⟩
      have hd2l : d2.length ≤ 1024 := by
        rw [hd2]
        split
        · exact nWrite_le _ _ hd1
        · exact hd1
      have hn2l : n2 ≤ 256 * (k + 1) := by
        rw [hn2]
        split <;> omega
      have KW := Lib.hid (fun W => refWrite_any d1 x.offset x.data W (by omega) (by omega) (by omega))
      have HD := Lib.hid (And.intro hd2 hn2)
      clear hd2 hn2
      go_upto_if 58 with fail
      generalize hpb : (m.proc == 7) = pb at *
      go_cut [2, 9] from 59 to 72 (fun v2 v9 wx => v2 = .string (bs d2) ∧ v9 = .int .i64 (n2 : Int) ∧ Below w5.heap.size w5 wx)
      case first =>
        cases pb
        case false =>
          have hnp : ¬ m.proc = 7 := by simpa using hpb
          have HE := Lib.hid (show d2 = d1 ∧ n2 = n1 by rw [HD.out.1, HD.out.2, if_neg hnp, if_neg hnp]; exact ⟨rfl, rfl⟩)
          clear hnp hpb
          go_wp2
          go_meet
          case rel => rw [HE.out.1, HE.out.2]; exact ⟨rfl, rfl, Below.refl _ _⟩
        case true =>
          have hnp : m.proc = 7 := by simpa using hpb
          have HE := Lib.hid (show d2 = (nWrite d1 x.offset x.data).1 ∧ n2 = n1 + x.data.length by rw [HD.out.1, HD.out.2, if_pos hnp, if_pos hnp]; exact ⟨rfl, rfl⟩)
          clear hnp hpb
          go_wp2_with fail
          refine (KW.out _).mono ?_
          rintro e w6 ⟨rfl, hb6⟩
          have y8 := (hb6.cell (p := ⟨w4.heap.size, 8, none⟩) hl4).trans x8
          have HB6 := Lib.hid hb6
          clear hb6
          go_wp2
          go_meet
          case rel => rw [HE.out.1, HE.out.2]; exact ⟨rfl, by rw [Int.natCast_add], HB6.out⟩
      case rest =>
      obtain ⟨rfl, rfl, hb7⟩ := hcut
      have o0 := (hb7.cell (p := ⟨w2.heap.size, 0, none⟩) hl2).trans n0
      have o3 := (hb7.cell (p := ⟨w2.heap.size, 3, none⟩) hl2).trans n3
      have HB7 := Lib.hid (below_then HB5.out hb7)
      have hl7 : w2.heap.size < wc.heap.size := Nat.lt_of_lt_of_le hl2 hb7.size
      have KB : ∀ W, Calls Tryz.prog 30 #[.int .i64 m.proc, .agg replyZ.vals.toArray] W fun e w' => e = .returned (.string (bs (zeroBody m.proc))) ∧ Below W.heap.size W w' := fun W => refBytes8_any m.proc replyZ [] [] W rfl rfl At.nil At.nil (by decide) (by decide) (zeroM8 hp3)
      replace KB := Lib.hid KB
      have HS := Lib.hid (fun (V : World) (h : Below wc.heap.size wc V) => (show V.cell? ⟨w2.heap.size, 0, none⟩ = some (.int .i64 m.xid) ∧ V.cell? ⟨w2.heap.size, 3, none⟩ = some (.int .i64 m.proc) from ⟨(h.cell (p := ⟨w2.heap.size, 0, none⟩) hl7).trans o0, (h.cell (p := ⟨w2.heap.size, 3, none⟩) hl7).trans o3⟩))
      clear hb7 n0 n1' n3 x5 x8 hl2 hl4 hnw KW o0 o3 HW5
      go_upto_region 12 with fail
      go_cut [15] from 73 to 79 (fun v15 wx => ∃ bq, v15 = .pointer (some ⟨bq, 0, none⟩) ∧ Blk wx bq 81 (ansM m).vals ∧ Below wc.heap.size wc wx)
      case first =>
        have hS0 := HS.out wc.drew (Below.refl _ _).drew
        go_region_held3 (fun V => V.cell? ⟨w2.heap.size, 0, none⟩ = some (.int .i64 m.xid) ∧ V.cell? ⟨w2.heap.size, 3, none⟩ = some (.int .i64 m.proc)) (first | with_reducible assumption | exact HS.out _ ((Below.refl _ _).alloc (Nat.le_refl _) _).drew | exact HS.out _ (hb6.alloc hb6.size _) | exact HS.out _ (Below.puts33 (Nat.le_refl _) hb6) | exact HS.out _ (Below.puts33 hb6.size (hb6.alloc hb6.size _))) (first
          | (go_at_call 30; refine (KB.out _).mono ?_; rintro e w8 ⟨rfl, hb8⟩; have hb6 : Below wc.heap.size wc w8 := (by first | exact below_then (Below.refl _ _).drew hb8 | exact below_then ((Below.refl _ _).alloc (Nat.le_refl _) _).drew hb8); have hS8 := HS.out w8 hb6; first | (have hZ8 : Blk w8 wc.heap.size 81 msg0.vals := (Blk.new wc 81 msg0.vals).drew.stays hb8; have ht8 : thereB w8 wc.heap.size 0 10 = true := hZ8.thereB 0 10 (Nat.le_refl _)) | skip)
          | fail)
        all_goals clear hS8
        all_goals clear hb8
        all_goals go_wp2
        all_goals go_meet
        case rel => exact ⟨_, rfl, Blk.new w8 81 (ansM m).vals, hb6.alloc hb6.size _⟩
        case rel =>
          have q1 := hZ8.puts 0 (ansM m).vals
          rw [show setAt msg0.vals 0 (ansM m).vals = (ansM m).vals from rfl] at q1
          exact ⟨_, rfl, q1, Below.puts33 (Nat.le_refl _) hb6⟩
      case rest =>
      obtain ⟨bq, rfl, bQ, hb9⟩ := hcut
      have rQ : rowOf wc bq 0 10 = some (ansM m).vals.toArray := bQ.row 0 10 (by rw [Message.len]; decide)
      have KR := Lib.hid (fun W => refBytes9_any (ansM m) W (in32_ans (by rw [HST.out.2.2.2.2.2.2.1]; have := HST.out.2.2.2.2.2.2.2.2.1; omega) (by rw [HST.out.2.2.2.2.2.2.1]; have := HST.out.2.2.2.2.2.2.2.1; omega)) (by have := HST.out.2.2.2.2.2.2.2.2.2.1; omega))
      have HB9 := Lib.hid (below_then HB7.out hb9)
      clear bQ hb9 KB HS hl7
      go_wp2_with fail
      refine (KR.out _).mono ?_
      rintro e w10 ⟨rfl, hb10⟩
      have HS10 := Lib.hid (HST.out.2.2.1.below (below_then HB9.out hb10))
      clear hb10 rQ KR HB9 HB7
      go_wp2_with fail
      refine (KT.out _ HS10.out).mono ?_
      rintro e w11 ⟨A2, cap2, rfl, hrow, hS2, -⟩
      have HF := Lib.hid (And.intro hrow.rows (And.intro hS2 (And.intro hn2l hd2l)))
      clear hrow hS2 KT HS10
      go_wp2
      go_roundw
      case rel =>
        obtain ⟨h1, h2, h3, h4⟩ := HF.out
        refine ⟨k + 1, (c2.next 1 0).1, (c2.next 1 0).2, A2, cap2, d2, n2, by omega, rfl, rfl, rfl, by go_num, h3, h4, HST.out.2.1, h1, h2, ?_⟩
        rw [HD.out.1, HD.out.2]
        exact HST.out.1
      case measure => simp [intOf]; omega
end Go.Proofs.YtfjflkmhhbhceaaGreatDoor
