/-
 THE DOCUMENT'S stmt: a statement that begins with a place; too many, or too deep. Conditions: a parser.
-/
import Derived.Test.YtiadfmhodlbkiaaQ28
namespace Go.Proofs.Ytiadfmhodlbkiaa
open Go.RowKit
set_option linter.unusedSimpArgs false
set_option linter.unusedVariables false
def swS : List (List Nat) := [[104, 97, 108, 116], [104, 97, 115, 104], [104, 97, 115, 104, 100], [111, 117, 116], [122, 101, 114, 111], [115, 119, 97, 112], [126], [114], [105, 102], [100, 111]]
section
variable {w : World} {B gp gi : Nat} {l : List Tok} {b : Option Flt} {many : Nat}
set_option maxRecDepth 100000 in
set_option maxHeartbeats 40000000 in
theorem rstmt_onw (dp : Nat) (hd20 : dp ≤ 20) (blk : Blk) (h : RS B w gp l none many) (hm : many < 500) (hkn : Known (hd l).s) (hns : ∀ x ∈ swS, (hd l).s ≠ x) (hkk : (hd l).k = 1) (hkb : look bareL (hd l).s = none) (hku : look unaL (hd l).s = none) (hkf : look firL (hd l).s = some 1) :
  Calls Try.prog 77 #[.pointer (some ⟨gp, 0, none⟩), .int .i64 dp] w (RStPost (stmt false blk) B gp w l many) := by
 have HKN := Lib.hid hkn
 have HNS := Lib.hid hns
 have HKB := Lib.hid hkb
 have HKU := Lib.hid hku
 have HKF := Lib.hid hkf
 have HQ1 := Lib.hid (hns [104, 97, 108, 116] (by decide))
 have HQ2 := Lib.hid (hns [114] (by decide))
 have HQ3 := Lib.hid (hns [105, 102] (by decide))
 have HQ4 := Lib.hid (hns [100, 111] (by decide))
 clear hkn hns hkb hku hkf
 obtain ⟨m1, hm1⟩ : ∃ m1, m1 = many + 1 := ⟨_, rfl⟩
 have hw1 : IntKind.i64.wrap ((many : Int) + 1) = (m1 : Int) := by rw [IntKind.wrap_i64]; omega; all_goals omega
 have hm501 : m1 ≤ 501 := by omega
 have HM1 := Lib.hid hm1
 have HM500 : Hid (m1 ≤ 500) := by unfold Hid; omega
 have htest : ¬ (500 : Int) < m1 := by omega
 have htest2 : ¬ (20 : Int) < dp := by omega
 have HL : Hid (¬ (500 < many + 1 ∨ false = true)) := by unfold Hid; simp; omega
 clear hm hd20 hm1
 have HKK := Lib.hid hkk
 clear hkk
 have hb1 : Below w.heap.size w (w.alloc zZ1) := (Below.refl _ _).alloc (Nat.le_refl _) _
 have h1 := h.below hb1
 have hr4 := st_row (k := 0) (i := i0) (c := c0) (vb := .slice none 0 0) (ve := .slice none 0 0) (ln := 0) (heap_alloc_new w zZ1)
 obtain ⟨tk, htk⟩ : ∃ tk, tk = hd l := ⟨_, rfl⟩
 have hN1 := rnow_any h1
 rw [← htk] at hN1
 have HN1 := Lib.hid hN1
 have HW := Lib.hid (And.intro h.bw h.bp)
 have HOK : Hid (TokOk tk) := by rw [htk]; exact h.tl.hd_ok
 have H1 := Lib.hid h1
 have HB1 := Lib.hid hb1
 have HR4 := Lib.hid hr4
 have HT := Lib.hid htk
 have hf3 := tok_f3
 have e1 : (w.alloc zZ1).heap.size = w.heap.size + 1 := World.size_alloc _ _
 have HE1 := Lib.hid e1
 clear h htk h1 hb1 hr4 hN1 e1
 go_enter Try.func77, Try.ntmps77
 go_wp2_with fail
 have hgg := HE1.out
 have hp := H1.out
 have r4 := HR4.out
 have hbw := HB1.out
 have HN1' := HN1.out
 clear H1 HR4 HB1 HN1 HE1
 generalize w.alloc zZ1 = W1 at *
 obtain ⟨g4, hg4⟩ : ∃ g4, g4 = w.heap.size := ⟨_, rfl⟩
 rw [← hg4] at r4 hgg ⊢
 have HG4 := Lib.hid hg4
 have HH := Lib.hid (And.intro hp (And.intro r4 (And.intro hbw hgg)))
 clear hp r4 hbw hgg hg4
 refine HN1'.mono ?_
 rintro e Wa ⟨rfl, hba⟩
 clear HN1'
 have hba2 : Below Wa.heap.size Wa (Wa.alloc (zZ3 tk)) := (Below.refl _ _).alloc (Nat.le_refl _) _
 have h2 := (HH.out.1.below hba).below hba2
 have hN2 := rnow_any h2
 rw [← HT.out] at hN2
 have HN2x := Lib.hid hN2
 have HP2 := Lib.hid h2
 have R42 := Lib.hid (ze hba2 (ze hba HH.out.2.1 HH.out.2.1.lt) (ze hba HH.out.2.1 HH.out.2.1.lt).lt)
 have R62 := Lib.hid (st_row (k := 1) (i := i0) (c := c0) (vb := .slice none 0 0) (ve := .slice none 0 0) (ln := tk.ln) (heap_alloc_new Wa (zZ3 tk)))
 have HGA := Lib.hid (zd (zb HH.out.2.2.1 (some gp)) (zd (zb hba (some gp)) (zb hba2 (some gp))))
 have HE3 : Hid (g4 < Wa.heap.size ∧ True ∧ True) := ⟨by have := HH.out.2.2.2; have := hba.size; omega, trivial, trivial⟩
 clear h2 hN2 hba hba2 HH
 go_wp2_with fail
 generalize Wa.alloc (zZ3 tk) = Wc at *
 obtain ⟨g6, hg6⟩ : ∃ g6, g6 = Wa.heap.size := ⟨_, rfl⟩
 rw [← hg6] at R62 HE3 ⊢
 clear hg6 hf3 Wa
 refine HN2x.out.mono ?_
 rintro e Wb ⟨rfl, hb⟩
 have hbt : Below Wb.heap.size Wb (Wb.alloc (.cells #[.int .u8 tk.k, .string (mkS tk.s), .int .i64 tk.n, .int .i64 tk.ln] 60)) := (Below.refl _ _).alloc (Nat.le_refl _) _
 have HP := Lib.hid ((HP2.out.below hb).below hbt)
 have R4 := Lib.hid (ze hbt (ze hb R42.out R42.out.lt) (ze hb R42.out R42.out.lt).lt)
 have R6 := Lib.hid (ze hbt (ze hb R62.out R62.out.lt) (ze hb R62.out R62.out.lt).lt)
 have G1 := Lib.hid (zd HGA.out (zd (zb hb (some gp)) (zb hbt (some gp))))
 obtain ⟨d0, d1, d2, d3⟩ := al_four Wb tk
 have HD1 := Lib.hid d1
 have HL5x : Hid (Wb.heap.size < (Wb.alloc (.cells #[.int .u8 tk.k, .string (mkS tk.s), .int .i64 tk.n, .int .i64 tk.ln] 60)).heap.size) := by unfold Hid; rw [World.size_alloc]; omega
 have HN46 : Hid (g4 ≠ g6) := by have := HE3.out; unfold Hid; omega
 have HN64 : Hid (g6 ≠ g4) := by have := HE3.out; unfold Hid; omega
 have HN4 : Hid (g4 ≠ gp) := by have := HW.out; have := HG4.out; unfold Hid; omega
 have HN6 : Hid (g6 ≠ gp) := by have := HW.out; have := HG4.out; have := HE3.out; unfold Hid; omega
 have HG4B : Hid (B ≤ g4 ∧ B ≤ g6) := by have := HW.out; have := HG4.out; have := HE3.out; unfold Hid; omega
 have HG4W : Hid (w.heap.size ≤ g4 ∧ w.heap.size ≤ g6) := by have := HG4.out; have := HE3.out; unfold Hid; omega
 have HN5 : Hid (Wb.heap.size ≠ gp ∧ Wb.heap.size ≠ g4 ∧ Wb.heap.size ≠ g6) := by
  have h1 := hb.size; have h2 := R62.out.lt; have := HW.out; have := HG4.out; have := HE3.out; unfold Hid; omega
 obtain ⟨s, hs⟩ : ∃ s, s = tk.s := ⟨_, rfl⟩
 have HS8 : Hid (∀ x ∈ s, x < 256) := by rw [hs]; exact HOK.out.1
 have HS : Hid (s = (hd l).s) := by rw [← HT.out]; exact hs
 clear HN2x HP2 R42 R62 HGA hb hbt d2 d3
 have KK : Hid (tk.k = 1) := by unfold Hid; rw [HT.out]; exact HKK.out
 have k1I : ((tk.k : Int) != 1) = false := by rw [show tk.k = 1 from KK.out]; rfl
 go_wp2_with fail
 try rw [show Wb.heap.size + 1 = (Wb.alloc (.cells #[.int .u8 tk.k, .string (mkS tk.s), .int .i64 tk.n, .int .i64 tk.ln] 60)).heap.size from (World.size_alloc _ _).symm]
 obtain ⟨g5, hg5⟩ : ∃ g5, g5 = Wb.heap.size := ⟨_, rfl⟩
 rw [← hs] at HD1 ⊢
 have T1 : Hid ((Wb.alloc (.cells #[.int .u8 tk.k, .string (mkS s), .int .i64 tk.n, .int .i64 tk.ln] 60)).cell? ⟨g5, 1, none⟩ = some (.string (mkS s))) := by rw [hg5]; exact HD1.out
 have HL5 := HL5x
 rw [← hs] at HP R4 R6 G1 HL5
 rw [← hg5] at HL5 HN5 ⊢
 generalize Wb.alloc (.cells #[.int .u8 tk.k, .string (mkS s), .int .i64 tk.n, .int .i64 tk.ln] 60) = Wd at *
 clear hg5 HD1 HL5x d0 d1 Wb hs
 clear k1I
 have hcn : ∀ i (hi : i < knownS.length), (Wd.alloc zZ5).cell? ⟨(World.heap Wd).size, i, none⟩ = some (.string (mkS knownS[i])) := fun i hi => by
  rw [cell_of_row _ _ _ _ _ _ (heap_alloc_new _ _)]
  match i, hi with
  | 0, _ => rfl
  | 1, _ => rfl
  | 2, _ => rfl
  | 3, _ => rfl
  | 4, _ => rfl
  | 5, _ => rfl
  | 6, _ => rfl
  | 7, _ => rfl
  | 8, _ => rfl
  | 9, _ => rfl
  | 10, _ => rfl
  | 11, _ => rfl
  | 12, _ => rfl
  | 13, _ => rfl
  | 14, _ => rfl
 have HCN := Lib.hid hcn
 have hb : Below (World.heap Wd).size Wd (Wd.alloc zZ5) := (Below.refl _ _).alloc (Nat.le_refl _) _
 replace HP := Lib.hid (HP.out.below hb)
 replace G1 := Lib.hid (zd G1.out (zb hb (some gp)))
 replace R4 := Lib.hid (ze hb R4.out R4.out.lt)
 replace R6 := Lib.hid (ze hb R6.out R6.out.lt)
 replace T1 := Lib.hid ((hb.cell (World.block_lt_of_cell? _ _ T1.out)).trans T1.out)
 replace HL5 : Hid (g5 < _) := Nat.lt_of_lt_of_le HL5.out hb.size
 clear hb
 clear hcn
 generalize World.alloc Wd zZ5 = X at *
 generalize (World.heap Wd).size = g7 at *
 have R0 : ∃ i : Nat, (Value.int .i64 0) = .int .i64 i ∧ i ≤ 15 ∧ (Value.bool false) = .bool (decide (s ∈ knownS.take i)) ∧ Below X.heap.size X X := ⟨0, rfl, by omega, by simp, Below.refl _ _⟩
 go_loopw [8, 9] (fun v8 v9 wr => ∃ i : Nat, v9 = .int .i64 i ∧ i ≤ 15 ∧ v8 = .bool (decide (s ∈ knownS.take i)) ∧ Below X.heap.size X wr) (fun _ v _ => 15 - (intOf v).toNat)
 case atStart => exact R0
 case round =>
  clear R0
  obtain ⟨i, rfl, hi, rfl, hb⟩ := hrel
  by_cases hl : i < 15
  · have hlI : (i : Int) < 15 := by omega
    have i0' : (0 : Int) ≤ i := by omega
    have iT : ((i : Int)).toNat = i := by omega
    have hwi : IntKind.i64.wrap ((i : Int) + 1) = ((i + 1 : Nat) : Int) := by rw [IntKind.wrap_i64]; omega; all_goals omega
    have hlk : i < knownS.length := hl
    have hci := (hb.cell (World.block_lt_of_cell? _ _ (HCN.out i hlk))).trans (HCN.out i hlk)
    obtain ⟨x, hx⟩ : ∃ x, x = knownS[i] := ⟨_, rfl⟩
    rw [← hx] at hci
    have htk : knownS.take (i + 1) = knownS.take i ++ [x] := by rw [hx, List.take_succ_eq_append_getElem hlk]
    have hx8 := knownS_b8 x (by rw [hx]; exact List.getElem_mem hlk)
    have HTK := Lib.hid htk
    have HB := Lib.hid hb
    by_cases hin : s ∈ knownS.take i
    · have hin2 : s ∈ knownS.take (i + 1) := by rw [htk]; exact List.mem_append_left _ hin
      rw [decide_eq_true hin]
      have HIN := Lib.hid hin2
      have HLL := Lib.hid hl
      clear hin hin2 htk hx hx8 hb hl
      go_wp2_with fail
      go_roundw
      case rel => exact ⟨i + 1, rfl, HLL.out, by rw [decide_eq_true HIN.out], HB.out⟩
      case measure => show 15 - (i + 1 : Nat) < 15 - i; have := HLL.out; omega
    · rw [decide_eq_false hin]
      have HI := Lib.hid (ris_any (HP.out.below hb) (mkS x) x rfl hx8.1 hx8.2)
      rw [← HS.out] at HI
      have HIN := Lib.hid hin
      have HLL := Lib.hid hl
      clear hin htk hx hx8 hb hl
      obtain ⟨r, hr⟩ : ∃ r, r = decide (s = x) := ⟨_, rfl⟩
      rw [← hr] at HI
      have HRR := Lib.hid hr
      clear hr
      go_wp2_with fail
      refine HI.out.mono ?_
      rintro e w3 ⟨rfl, hb3⟩
      have HB3 := Lib.hid (HB.out.trans (hb3.mono HB.out.size))
      clear hb3 HI
      go_wp2_with fail
      go_roundw
      case rel =>
       refine ⟨i + 1, rfl, HLL.out, ?_, HB3.out⟩
       rw [HRR.out, HTK.out]
       have hin := HIN.out
       congr 1
       rw [Bool.eq_iff_iff, decide_eq_true_eq, decide_eq_true_eq, List.mem_append, List.mem_singleton]
       exact ⟨fun e => .inr e, fun e => by rcases e with e | e; exact absurd e hin; exact e⟩
      case measure => show 15 - (i + 1 : Nat) < 15 - i; have := HLL.out; omega
  · have hlI : ¬ (i : Int) < 15 := by omega
    have hii : i = 15 := by omega
    subst hii
    rw [show knownS.take 15 = knownS from rfl]
    have HB := Lib.hid hb
    clear hb hl hi
    have hb := HB.out
    replace HP := Lib.hid (HP.out.below hb)
    replace G1 := Lib.hid (zd G1.out (zb hb (some gp)))
    replace R4 := Lib.hid (ze hb R4.out R4.out.lt)
    replace R6 := Lib.hid (ze hb R6.out R6.out.lt)
    replace T1 := Lib.hid ((hb.cell (World.block_lt_of_cell? _ _ T1.out)).trans T1.out)
    replace HL5 : Hid (g5 < _) := Nat.lt_of_lt_of_le HL5.out hb.size
    clear hb
    clear HB HCN
    rw [decide_eq_true ((known_mem _).1 (HS.out ▸ HKN.out))]
    obtain ⟨gq, cq0, Lq, kq, qq, -⟩ := HP.out.ex
    have f4 : wr.cell? ⟨gp, 4, none⟩ = some (.int .i64 many) := qq.cell (show 4 < 5 by omega)
    have z4x := qq.frozen 4
    clear qq
    have h8 := HP.out.setM (m := m1) hm501
    have g8 := za G1.out (.inl rfl) (p := ⟨gp, 4, none⟩) (.int .i64 (m1 : Nat))
    have hgs : wr.grownBy (wr.setCell ⟨gp, 4, none⟩ (.int .i64 (m1 : Nat))) (some gp) := za (zf _ _) (.inl rfl) _
    have r48 := zc hgs R4.out HN4.out
    have r68 := zc hgs R6.out HN6.out
    have t18 : World.cell? (wr.setCell ⟨gp, 4, none⟩ (.int .i64 (m1 : Nat))) ⟨g5, 1, none⟩ = some (.string (mkS s)) := (grown_cell hgs (p := ⟨g5, 1, none⟩) (World.block_lt_of_cell? _ _ T1.out) HN5.out.1).trans T1.out
    have n5p := HN5.out.1
    have n56 := HN5.out.2.2
    have n65 : g6 ≠ g5 := fun e => HN5.out.2.2 e.symm
    have n54 := HN5.out.2.1
    clear HP G1 R4 R6 T1 hgs
    have q0 : ((mkS s).toList == ([104, 97, 108, 116] : List UInt8)) = false := by rw [show ([104, 97, 108, 116] : List UInt8) = (mkS [104, 97, 108, 116]).toList from (by rw [Lib.toList_data]; rfl), mkS_eq HS8.out (by decide)]; exact decide_eq_false (by rw [HS.out]; exact HNS.out _ (by decide))
    have q1 : ((mkS s).toList == ([104, 97, 115, 104] : List UInt8)) = false := by rw [show ([104, 97, 115, 104] : List UInt8) = (mkS [104, 97, 115, 104]).toList from (by rw [Lib.toList_data]; rfl), mkS_eq HS8.out (by decide)]; exact decide_eq_false (by rw [HS.out]; exact HNS.out _ (by decide))
    have q2 : ((mkS s).toList == ([104, 97, 115, 104, 100] : List UInt8)) = false := by rw [show ([104, 97, 115, 104, 100] : List UInt8) = (mkS [104, 97, 115, 104, 100]).toList from (by rw [Lib.toList_data]; rfl), mkS_eq HS8.out (by decide)]; exact decide_eq_false (by rw [HS.out]; exact HNS.out _ (by decide))
    have q3 : ((mkS s).toList == ([111, 117, 116] : List UInt8)) = false := by rw [show ([111, 117, 116] : List UInt8) = (mkS [111, 117, 116]).toList from (by rw [Lib.toList_data]; rfl), mkS_eq HS8.out (by decide)]; exact decide_eq_false (by rw [HS.out]; exact HNS.out _ (by decide))
    have q4 : ((mkS s).toList == ([122, 101, 114, 111] : List UInt8)) = false := by rw [show ([122, 101, 114, 111] : List UInt8) = (mkS [122, 101, 114, 111]).toList from (by rw [Lib.toList_data]; rfl), mkS_eq HS8.out (by decide)]; exact decide_eq_false (by rw [HS.out]; exact HNS.out _ (by decide))
    have q5 : ((mkS s).toList == ([115, 119, 97, 112] : List UInt8)) = false := by rw [show ([115, 119, 97, 112] : List UInt8) = (mkS [115, 119, 97, 112]).toList from (by rw [Lib.toList_data]; rfl), mkS_eq HS8.out (by decide)]; exact decide_eq_false (by rw [HS.out]; exact HNS.out _ (by decide))
    have q6 : ((mkS s).toList == ([126] : List UInt8)) = false := by rw [show ([126] : List UInt8) = (mkS [126]).toList from (by rw [Lib.toList_data]; rfl), mkS_eq HS8.out (by decide)]; exact decide_eq_false (by rw [HS.out]; exact HNS.out _ (by decide))
    have q7 : ((mkS s).toList == ([114] : List UInt8)) = false := by rw [show ([114] : List UInt8) = (mkS [114]).toList from (by rw [Lib.toList_data]; rfl), mkS_eq HS8.out (by decide)]; exact decide_eq_false (by rw [HS.out]; exact HNS.out _ (by decide))
    have q8 : ((mkS s).toList == ([105, 102] : List UInt8)) = false := by rw [show ([105, 102] : List UInt8) = (mkS [105, 102]).toList from (by rw [Lib.toList_data]; rfl), mkS_eq HS8.out (by decide)]; exact decide_eq_false (by rw [HS.out]; exact HNS.out _ (by decide))
    have q9 : ((mkS s).toList == ([100, 111] : List UInt8)) = false := by rw [show ([100, 111] : List UInt8) = (mkS [100, 111]).toList from (by rw [Lib.toList_data]; rfl), mkS_eq HS8.out (by decide)]; exact decide_eq_false (by rw [HS.out]; exact HNS.out _ (by decide))
    have HM := Lib.hid (ronplace_any h8)
    have HHG := Lib.hid g8
    have HHR4 := Lib.hid r48
    have HHR6 := Lib.hid r68
    clear g8 r48 r68
    go_wp2_with fail
    refine HM.out.mono ?_
    rintro e WA ⟨⟨io, id0, is0, im0⟩, l1, b1, rfl, he, hrn, hgn⟩
    have ge := zd HHG.out hgn
    have r4e := zc hgn HHR4.out HN4.out
    have r6e := zc hgn HHR6.out HN6.out
    clear HM HHG HHR4 HHR6
    dsimp only [insC]
    have HRN := Lib.hid hrn
    clear hrn hgn h8
    clear q0 q1 q2 q3 q4 q5 q6 q7 q8 q9
    have hgs := (za (za (za (za (zf WA (some g6)) (.inl rfl) (p := ⟨g6, 1, none⟩) (.int .u8 (io : Nat))) (.inl rfl) (p := ⟨g6, 2, none⟩) (.int .i64 id0)) (.inl rfl) (p := ⟨g6, 3, none⟩) (.int .i64 is0)) (.inl rfl) (p := ⟨g6, 4, none⟩) (.int .i64 im0))
    have hA := he.kept (row := some g6) hgs (fun k e => by injection e with e; subst e; exact HG4B.out.2)
    have gA := (za (za (za (za ge (.inr HG4W.out.2) (p := ⟨g6, 1, none⟩) (.int .u8 (io : Nat))) (.inr HG4W.out.2) (p := ⟨g6, 2, none⟩) (.int .i64 id0)) (.inr HG4W.out.2) (p := ⟨g6, 3, none⟩) (.int .i64 is0)) (.inr HG4W.out.2) (p := ⟨g6, 4, none⟩) (.int .i64 im0))
    have r4A := zc hgs r4e HN46.out
    have r6A := st_setI ⟨io, id0, is0, im0⟩ r6e
    have y1 := r6e.cell (show 1 < 13 by omega)
    have x1 := r6e.frozen 1
    have y2 := r6e.cell (show 2 < 13 by omega)
    have x2 := r6e.frozen 2
    have y3 := r6e.cell (show 3 < 13 by omega)
    have x3 := r6e.frozen 3
    have y4 := r6e.cell (show 4 < 13 by omega)
    have x4 := r6e.frozen 4
    dsimp only [stF, i0, c0] at y1 y2 y3 y4
    clear he ge r4e r6e hgs
    have H6 := Lib.hid hA
    have HG := Lib.hid gA
    have HR6 := Lib.hid r6A
    have HR4' := Lib.hid r4A
    have HTB := Lib.hid (Tr.nil ((((WA.setCell ⟨g6, 1, none⟩ (.int .u8 (io : Nat))).setCell ⟨g6, 2, none⟩ (.int .i64 id0)).setCell ⟨g6, 3, none⟩ (.int .i64 is0)).setCell ⟨g6, 4, none⟩ (.int .i64 im0)) (fun k => g6 < k))
    have HTE := Lib.hid (Tr.nil ((((WA.setCell ⟨g6, 1, none⟩ (.int .u8 (io : Nat))).setCell ⟨g6, 2, none⟩ (.int .i64 id0)).setCell ⟨g6, 3, none⟩ (.int .i64 is0)).setCell ⟨g6, 4, none⟩ (.int .i64 im0)) (fun k => g6 < k))
    have a0 := r6A.cell (show 0 < 13 by omega)
    have b0 := r4A.cell (show 0 < 13 by omega)
    have z0 := r4A.frozen 0
    have a1 := r6A.cell (show 1 < 13 by omega)
    have b1 := r4A.cell (show 1 < 13 by omega)
    have z1 := r4A.frozen 1
    have a2 := r6A.cell (show 2 < 13 by omega)
    have b2 := r4A.cell (show 2 < 13 by omega)
    have z2 := r4A.frozen 2
    have a3 := r6A.cell (show 3 < 13 by omega)
    have b3 := r4A.cell (show 3 < 13 by omega)
    have z3 := r4A.frozen 3
    have a4 := r6A.cell (show 4 < 13 by omega)
    have b4 := r4A.cell (show 4 < 13 by omega)
    have z4 := r4A.frozen 4
    have a5 := r6A.cell (show 5 < 13 by omega)
    have b5 := r4A.cell (show 5 < 13 by omega)
    have z5 := r4A.frozen 5
    have a6 := r6A.cell (show 6 < 13 by omega)
    have b6 := r4A.cell (show 6 < 13 by omega)
    have z6 := r4A.frozen 6
    have a7 := r6A.cell (show 7 < 13 by omega)
    have b7 := r4A.cell (show 7 < 13 by omega)
    have z7 := r4A.frozen 7
    have a8 := r6A.cell (show 8 < 13 by omega)
    have b8 := r4A.cell (show 8 < 13 by omega)
    have z8 := r4A.frozen 8
    have a9 := r6A.cell (show 9 < 13 by omega)
    have b9 := r4A.cell (show 9 < 13 by omega)
    have z9 := r4A.frozen 9
    have a10 := r6A.cell (show 10 < 13 by omega)
    have b10 := r4A.cell (show 10 < 13 by omega)
    have z10 := r4A.frozen 10
    have a11 := r6A.cell (show 11 < 13 by omega)
    have b11 := r4A.cell (show 11 < 13 by omega)
    have z11 := r4A.frozen 11
    have a12 := r6A.cell (show 12 < 13 by omega)
    have b12 := r4A.cell (show 12 < 13 by omega)
    have z12 := r4A.frozen 12
    dsimp only [stF, i0, c0] at a0 b0 a1 b1 a2 b2 a3 b3 a4 b4 a5 b5 a6 b6 a7 b7 a8 b8 a9 b9 a10 b10 a11 b11 a12 b12
    clear hA gA r6A r4A
    go_wp2_with fail
    (try simp only [Exit.inBlock, Exit.then])
    have hx0 := (za (za (za (za (za (za (za (za (za (za (za (za (za (zf ((((WA.setCell ⟨g6, 1, none⟩ (.int .u8 (io : Nat))).setCell ⟨g6, 2, none⟩ (.int .i64 id0)).setCell ⟨g6, 3, none⟩ (.int .i64 is0)).setCell ⟨g6, 4, none⟩ (.int .i64 im0)) (some g4)) (.inl rfl) (p := ⟨g4, 0, none⟩) (.int .u8 (1 : Nat))) (.inl rfl) (p := ⟨g4, 1, none⟩) (.int .u8 (io : Nat))) (.inl rfl) (p := ⟨g4, 2, none⟩) (.int .i64 id0)) (.inl rfl) (p := ⟨g4, 3, none⟩) (.int .i64 is0)) (.inl rfl) (p := ⟨g4, 4, none⟩) (.int .i64 im0)) (.inl rfl) (p := ⟨g4, 5, none⟩) (.bool false)) (.inl rfl) (p := ⟨g4, 6, none⟩) (.int .u8 (0 : Nat))) (.inl rfl) (p := ⟨g4, 7, none⟩) (.int .i64 0)) (.inl rfl) (p := ⟨g4, 8, none⟩) (.int .i64 0)) (.inl rfl) (p := ⟨g4, 9, none⟩) (.int .i64 0)) (.inl rfl) (p := ⟨g4, 10, none⟩) (.slice none 0 0)) (.inl rfl) (p := ⟨g4, 11, none⟩) (.slice none 0 0)) (.inl rfl) (p := ⟨g4, 12, none⟩) (.int .i64 (tk.ln : Nat)))
    have hx1 := st_all 1 ⟨io, id0, is0, im0⟩ ⟨false, ⟨0, 0, 0, 0⟩⟩ (.slice none 0 0) (.slice none 0 0) ((tk.ln : Nat)) HR4'.out
    have hx2 := H6.out.kept (row := some g4) hx0 (fun k e => by injection e with e; subst e; exact HG4B.out.1)
    have hx3 := (za (za (za (za (za (za (za (za (za (za (za (za (za HG.out (.inr HG4W.out.1) (p := ⟨g4, 0, none⟩) (.int .u8 (1 : Nat))) (.inr HG4W.out.1) (p := ⟨g4, 1, none⟩) (.int .u8 (io : Nat))) (.inr HG4W.out.1) (p := ⟨g4, 2, none⟩) (.int .i64 id0)) (.inr HG4W.out.1) (p := ⟨g4, 3, none⟩) (.int .i64 is0)) (.inr HG4W.out.1) (p := ⟨g4, 4, none⟩) (.int .i64 im0)) (.inr HG4W.out.1) (p := ⟨g4, 5, none⟩) (.bool false)) (.inr HG4W.out.1) (p := ⟨g4, 6, none⟩) (.int .u8 (0 : Nat))) (.inr HG4W.out.1) (p := ⟨g4, 7, none⟩) (.int .i64 0)) (.inr HG4W.out.1) (p := ⟨g4, 8, none⟩) (.int .i64 0)) (.inr HG4W.out.1) (p := ⟨g4, 9, none⟩) (.int .i64 0)) (.inr HG4W.out.1) (p := ⟨g4, 10, none⟩) (.slice none 0 0)) (.inr HG4W.out.1) (p := ⟨g4, 11, none⟩) (.slice none 0 0)) (.inr HG4W.out.1) (p := ⟨g4, 12, none⟩) (.int .i64 (tk.ln : Nat)))
    have hx4 := HTB.out.grown hx0 (fun k hk e => by injection e with e; have := HE3.out; have hk' : g6 < k := hk; omega)
    have hx5 := HTE.out.grown hx0 (fun k hk e => by injection e with e; have := HE3.out; have hk' : g6 < k := hk; omega)
    have hx4 := hx4.mono (S' := fun k => w.heap.size ≤ k) (fun k hk _ => by have := HG4.out; have := HE3.out; have hk' : g6 < k := hk; omega)
    have hx5 := hx5.mono (S' := fun k => w.heap.size ≤ k) (fun k hk _ => by have := HG4.out; have := HE3.out; have hk' : g6 < k := hk; omega)
    clear hx0
    dsimp only at hx1 hx2 hx3 hx4 hx5 ⊢
    generalize (((((((((((((((((WA.setCell ⟨g6, 1, none⟩ (.int .u8 (io : Nat))).setCell ⟨g6, 2, none⟩ (.int .i64 id0)).setCell ⟨g6, 3, none⟩ (.int .i64 is0)).setCell ⟨g6, 4, none⟩ (.int .i64 im0)).setCell ⟨g4, 0, none⟩ (.int .u8 (1 : Nat))).setCell ⟨g4, 1, none⟩ (.int .u8 (io : Nat))).setCell ⟨g4, 2, none⟩ (.int .i64 id0)).setCell ⟨g4, 3, none⟩ (.int .i64 is0)).setCell ⟨g4, 4, none⟩ (.int .i64 im0)).setCell ⟨g4, 5, none⟩ (.bool false)).setCell ⟨g4, 6, none⟩ (.int .u8 (0 : Nat))).setCell ⟨g4, 7, none⟩ (.int .i64 0)).setCell ⟨g4, 8, none⟩ (.int .i64 0)).setCell ⟨g4, 9, none⟩ (.int .i64 0)).setCell ⟨g4, 10, none⟩ (.slice none 0 0)).setCell ⟨g4, 11, none⟩ (.slice none 0 0)).setCell ⟨g4, 12, none⟩ (.int .i64 (tk.ln : Nat))) = W99 at hx1 hx2 hx3 hx4 hx5 ⊢
    refine bodyPost_ret (st_results rfl _ _ g4 rfl hx1) rfl ?_
    exact ⟨⟨1, ⟨io, id0, is0, im0⟩, ⟨false, ⟨0, 0, 0, 0⟩⟩, .nil, .nil, (tk.ln : Nat)⟩, .slice none 0 0, .slice none 0 0, l1, _, m1, rfl, hx4, hx5, hx2, (fun _ => HM500.out), by rw [HT.out, HM1.out]; exact kst (α := Unit) (st_on HL.out HKB.out HKU.out HKF.out HQ1.out HQ2.out HQ3.out HQ4.out) HRN.out, hx3⟩
set_option maxRecDepth 100000 in
set_option maxHeartbeats 40000000 in
theorem rstmt_ons (dp : Nat) (hd20 : dp ≤ 20) (blk : Blk) (h : RS B w gp l none many) (hm : many < 500) (hkn : Known (hd l).s) (hns : ∀ x ∈ swS, (hd l).s ≠ x) (hss : (hd l).s = [42]) (hkb : look bareL (hd l).s = none) (hku : look unaL (hd l).s = none) (hkf : look firL (hd l).s = some 1) :
  Calls Try.prog 77 #[.pointer (some ⟨gp, 0, none⟩), .int .i64 dp] w (RStPost (stmt false blk) B gp w l many) := by
 have HKN := Lib.hid hkn
 have HNS := Lib.hid hns
 have HKB := Lib.hid hkb
 have HKU := Lib.hid hku
 have HKF := Lib.hid hkf
 have HQ1 := Lib.hid (hns [104, 97, 108, 116] (by decide))
 have HQ2 := Lib.hid (hns [114] (by decide))
 have HQ3 := Lib.hid (hns [105, 102] (by decide))
 have HQ4 := Lib.hid (hns [100, 111] (by decide))
 have hkk : (hd l).k = 3 := signk h.tl.hd_ok (by rw [hss]; decide) (by rw [hss]; decide)
 have HSS := Lib.hid hss
 clear hss
 clear hkn hns hkb hku hkf
 obtain ⟨m1, hm1⟩ : ∃ m1, m1 = many + 1 := ⟨_, rfl⟩
 have hw1 : IntKind.i64.wrap ((many : Int) + 1) = (m1 : Int) := by rw [IntKind.wrap_i64]; omega; all_goals omega
 have hm501 : m1 ≤ 501 := by omega
 have HM1 := Lib.hid hm1
 have HM500 : Hid (m1 ≤ 500) := by unfold Hid; omega
 have htest : ¬ (500 : Int) < m1 := by omega
 have htest2 : ¬ (20 : Int) < dp := by omega
 have HL : Hid (¬ (500 < many + 1 ∨ false = true)) := by unfold Hid; simp; omega
 clear hm hd20 hm1
 have HKK := Lib.hid hkk
 clear hkk
 have hb1 : Below w.heap.size w (w.alloc zZ1) := (Below.refl _ _).alloc (Nat.le_refl _) _
 have h1 := h.below hb1
 have hr4 := st_row (k := 0) (i := i0) (c := c0) (vb := .slice none 0 0) (ve := .slice none 0 0) (ln := 0) (heap_alloc_new w zZ1)
 obtain ⟨tk, htk⟩ : ∃ tk, tk = hd l := ⟨_, rfl⟩
 have hN1 := rnow_any h1
 rw [← htk] at hN1
 have HN1 := Lib.hid hN1
 have HW := Lib.hid (And.intro h.bw h.bp)
 have HOK : Hid (TokOk tk) := by rw [htk]; exact h.tl.hd_ok
 have H1 := Lib.hid h1
 have HB1 := Lib.hid hb1
 have HR4 := Lib.hid hr4
 have HT := Lib.hid htk
 have hf3 := tok_f3
 have e1 : (w.alloc zZ1).heap.size = w.heap.size + 1 := World.size_alloc _ _
 have HE1 := Lib.hid e1
 clear h htk h1 hb1 hr4 hN1 e1
 go_enter Try.func77, Try.ntmps77
 go_wp2_with fail
 have hgg := HE1.out
 have hp := H1.out
 have r4 := HR4.out
 have hbw := HB1.out
 have HN1' := HN1.out
 clear H1 HR4 HB1 HN1 HE1
 generalize w.alloc zZ1 = W1 at *
 obtain ⟨g4, hg4⟩ : ∃ g4, g4 = w.heap.size := ⟨_, rfl⟩
 rw [← hg4] at r4 hgg ⊢
 have HG4 := Lib.hid hg4
 have HH := Lib.hid (And.intro hp (And.intro r4 (And.intro hbw hgg)))
 clear hp r4 hbw hgg hg4
 refine HN1'.mono ?_
 rintro e Wa ⟨rfl, hba⟩
 clear HN1'
 have hba2 : Below Wa.heap.size Wa (Wa.alloc (zZ3 tk)) := (Below.refl _ _).alloc (Nat.le_refl _) _
 have h2 := (HH.out.1.below hba).below hba2
 have hN2 := rnow_any h2
 rw [← HT.out] at hN2
 have HN2x := Lib.hid hN2
 have HP2 := Lib.hid h2
 have R42 := Lib.hid (ze hba2 (ze hba HH.out.2.1 HH.out.2.1.lt) (ze hba HH.out.2.1 HH.out.2.1.lt).lt)
 have R62 := Lib.hid (st_row (k := 1) (i := i0) (c := c0) (vb := .slice none 0 0) (ve := .slice none 0 0) (ln := tk.ln) (heap_alloc_new Wa (zZ3 tk)))
 have HGA := Lib.hid (zd (zb HH.out.2.2.1 (some gp)) (zd (zb hba (some gp)) (zb hba2 (some gp))))
 have HE3 : Hid (g4 < Wa.heap.size ∧ True ∧ True) := ⟨by have := HH.out.2.2.2; have := hba.size; omega, trivial, trivial⟩
 clear h2 hN2 hba hba2 HH
 go_wp2_with fail
 generalize Wa.alloc (zZ3 tk) = Wc at *
 obtain ⟨g6, hg6⟩ : ∃ g6, g6 = Wa.heap.size := ⟨_, rfl⟩
 rw [← hg6] at R62 HE3 ⊢
 clear hg6 hf3 Wa
 refine HN2x.out.mono ?_
 rintro e Wb ⟨rfl, hb⟩
 have hbt : Below Wb.heap.size Wb (Wb.alloc (.cells #[.int .u8 tk.k, .string (mkS tk.s), .int .i64 tk.n, .int .i64 tk.ln] 60)) := (Below.refl _ _).alloc (Nat.le_refl _) _
 have HP := Lib.hid ((HP2.out.below hb).below hbt)
 have R4 := Lib.hid (ze hbt (ze hb R42.out R42.out.lt) (ze hb R42.out R42.out.lt).lt)
 have R6 := Lib.hid (ze hbt (ze hb R62.out R62.out.lt) (ze hb R62.out R62.out.lt).lt)
 have G1 := Lib.hid (zd HGA.out (zd (zb hb (some gp)) (zb hbt (some gp))))
 obtain ⟨d0, d1, d2, d3⟩ := al_four Wb tk
 have HD1 := Lib.hid d1
 have HL5x : Hid (Wb.heap.size < (Wb.alloc (.cells #[.int .u8 tk.k, .string (mkS tk.s), .int .i64 tk.n, .int .i64 tk.ln] 60)).heap.size) := by unfold Hid; rw [World.size_alloc]; omega
 have HN46 : Hid (g4 ≠ g6) := by have := HE3.out; unfold Hid; omega
 have HN64 : Hid (g6 ≠ g4) := by have := HE3.out; unfold Hid; omega
 have HN4 : Hid (g4 ≠ gp) := by have := HW.out; have := HG4.out; unfold Hid; omega
 have HN6 : Hid (g6 ≠ gp) := by have := HW.out; have := HG4.out; have := HE3.out; unfold Hid; omega
 have HG4B : Hid (B ≤ g4 ∧ B ≤ g6) := by have := HW.out; have := HG4.out; have := HE3.out; unfold Hid; omega
 have HG4W : Hid (w.heap.size ≤ g4 ∧ w.heap.size ≤ g6) := by have := HG4.out; have := HE3.out; unfold Hid; omega
 have HN5 : Hid (Wb.heap.size ≠ gp ∧ Wb.heap.size ≠ g4 ∧ Wb.heap.size ≠ g6) := by
  have h1 := hb.size; have h2 := R62.out.lt; have := HW.out; have := HG4.out; have := HE3.out; unfold Hid; omega
 obtain ⟨s, hs⟩ : ∃ s, s = tk.s := ⟨_, rfl⟩
 have HS8 : Hid (∀ x ∈ s, x < 256) := by rw [hs]; exact HOK.out.1
 have HS : Hid (s = (hd l).s) := by rw [← HT.out]; exact hs
 clear HN2x HP2 R42 R62 HGA hb hbt d2 d3
 have KK : Hid (tk.k = 3) := by unfold Hid; rw [HT.out]; exact HKK.out
 have k1I : ((tk.k : Int) != 1) = true := by rw [show tk.k = 3 from KK.out]; rfl
 go_wp2_with fail
 try rw [show Wb.heap.size + 1 = (Wb.alloc (.cells #[.int .u8 tk.k, .string (mkS tk.s), .int .i64 tk.n, .int .i64 tk.ln] 60)).heap.size from (World.size_alloc _ _).symm]
 obtain ⟨g5, hg5⟩ : ∃ g5, g5 = Wb.heap.size := ⟨_, rfl⟩
 rw [← hs] at HD1 ⊢
 have T1 : Hid ((Wb.alloc (.cells #[.int .u8 tk.k, .string (mkS s), .int .i64 tk.n, .int .i64 tk.ln] 60)).cell? ⟨g5, 1, none⟩ = some (.string (mkS s))) := by rw [hg5]; exact HD1.out
 have HL5 := HL5x
 rw [← hs] at HP R4 R6 G1 HL5
 rw [← hg5] at HL5 HN5 ⊢
 generalize Wb.alloc (.cells #[.int .u8 tk.k, .string (mkS s), .int .i64 tk.n, .int .i64 tk.ln] 60) = Wd at *
 clear hg5 HD1 HL5x d0 d1 Wb hs
 clear k1I
 have HI0 := ris_any HP.out ⟨#[126]⟩ [126] rfl (by decide) (by decide)
 rw [decide_eq_false (by rw [HSS.out]; decide)] at HI0
 have HI := Lib.hid HI0
 clear HI0
 go_wp2_with fail
 refine HI.out.mono ?_
 rintro e We ⟨rfl, hb⟩
 clear HI
 replace HP := Lib.hid (HP.out.below hb)
 replace G1 := Lib.hid (zd G1.out (zb hb (some gp)))
 replace R4 := Lib.hid (ze hb R4.out R4.out.lt)
 replace R6 := Lib.hid (ze hb R6.out R6.out.lt)
 replace T1 := Lib.hid ((hb.cell (World.block_lt_of_cell? _ _ T1.out)).trans T1.out)
 replace HL5 : Hid (g5 < _) := Nat.lt_of_lt_of_le HL5.out hb.size
 clear hb
 have HI0 := ris_any HP.out ⟨#[42]⟩ [42] rfl (by decide) (by decide)
 rw [decide_eq_true HSS.out] at HI0
 have HI := Lib.hid HI0
 clear HI0
 go_wp2_with fail
 refine HI.out.mono ?_
 rintro e Wf ⟨rfl, hb⟩
 clear HI
 replace HP := Lib.hid (HP.out.below hb)
 replace G1 := Lib.hid (zd G1.out (zb hb (some gp)))
 replace R4 := Lib.hid (ze hb R4.out R4.out.lt)
 replace R6 := Lib.hid (ze hb R6.out R6.out.lt)
 replace T1 := Lib.hid ((hb.cell (World.block_lt_of_cell? _ _ T1.out)).trans T1.out)
 replace HL5 : Hid (g5 < _) := Nat.lt_of_lt_of_le HL5.out hb.size
 clear hb
 go_wp2_with fail
 have hcn : ∀ i (hi : i < knownS.length), (Wf.alloc zZ5).cell? ⟨(World.heap Wf).size, i, none⟩ = some (.string (mkS knownS[i])) := fun i hi => by
  rw [cell_of_row _ _ _ _ _ _ (heap_alloc_new _ _)]
  match i, hi with
  | 0, _ => rfl
  | 1, _ => rfl
  | 2, _ => rfl
  | 3, _ => rfl
  | 4, _ => rfl
  | 5, _ => rfl
  | 6, _ => rfl
  | 7, _ => rfl
  | 8, _ => rfl
  | 9, _ => rfl
  | 10, _ => rfl
  | 11, _ => rfl
  | 12, _ => rfl
  | 13, _ => rfl
  | 14, _ => rfl
 have HCN := Lib.hid hcn
 have hb : Below (World.heap Wf).size Wf (Wf.alloc zZ5) := (Below.refl _ _).alloc (Nat.le_refl _) _
 replace HP := Lib.hid (HP.out.below hb)
 replace G1 := Lib.hid (zd G1.out (zb hb (some gp)))
 replace R4 := Lib.hid (ze hb R4.out R4.out.lt)
 replace R6 := Lib.hid (ze hb R6.out R6.out.lt)
 replace T1 := Lib.hid ((hb.cell (World.block_lt_of_cell? _ _ T1.out)).trans T1.out)
 replace HL5 : Hid (g5 < _) := Nat.lt_of_lt_of_le HL5.out hb.size
 clear hb
 clear hcn
 generalize World.alloc Wf zZ5 = X at *
 generalize (World.heap Wf).size = g7 at *
 have R0 : ∃ i : Nat, (Value.int .i64 0) = .int .i64 i ∧ i ≤ 15 ∧ (Value.bool false) = .bool (decide (s ∈ knownS.take i)) ∧ Below X.heap.size X X := ⟨0, rfl, by omega, by simp, Below.refl _ _⟩
 go_loopw [8, 9] (fun v8 v9 wr => ∃ i : Nat, v9 = .int .i64 i ∧ i ≤ 15 ∧ v8 = .bool (decide (s ∈ knownS.take i)) ∧ Below X.heap.size X wr) (fun _ v _ => 15 - (intOf v).toNat)
 case atStart => exact R0
 case round =>
  clear R0
  obtain ⟨i, rfl, hi, rfl, hb⟩ := hrel
  by_cases hl : i < 15
  · have hlI : (i : Int) < 15 := by omega
    have i0' : (0 : Int) ≤ i := by omega
    have iT : ((i : Int)).toNat = i := by omega
    have hwi : IntKind.i64.wrap ((i : Int) + 1) = ((i + 1 : Nat) : Int) := by rw [IntKind.wrap_i64]; omega; all_goals omega
    have hlk : i < knownS.length := hl
    have hci := (hb.cell (World.block_lt_of_cell? _ _ (HCN.out i hlk))).trans (HCN.out i hlk)
    obtain ⟨x, hx⟩ : ∃ x, x = knownS[i] := ⟨_, rfl⟩
    rw [← hx] at hci
    have htk : knownS.take (i + 1) = knownS.take i ++ [x] := by rw [hx, List.take_succ_eq_append_getElem hlk]
    have hx8 := knownS_b8 x (by rw [hx]; exact List.getElem_mem hlk)
    have HTK := Lib.hid htk
    have HB := Lib.hid hb
    by_cases hin : s ∈ knownS.take i
    · have hin2 : s ∈ knownS.take (i + 1) := by rw [htk]; exact List.mem_append_left _ hin
      rw [decide_eq_true hin]
      have HIN := Lib.hid hin2
      have HLL := Lib.hid hl
      clear hin hin2 htk hx hx8 hb hl
      go_wp2_with fail
      go_roundw
      case rel => exact ⟨i + 1, rfl, HLL.out, by rw [decide_eq_true HIN.out], HB.out⟩
      case measure => show 15 - (i + 1 : Nat) < 15 - i; have := HLL.out; omega
    · rw [decide_eq_false hin]
      have HI := Lib.hid (ris_any (HP.out.below hb) (mkS x) x rfl hx8.1 hx8.2)
      rw [← HS.out] at HI
      have HIN := Lib.hid hin
      have HLL := Lib.hid hl
      clear hin htk hx hx8 hb hl
      obtain ⟨r, hr⟩ : ∃ r, r = decide (s = x) := ⟨_, rfl⟩
      rw [← hr] at HI
      have HRR := Lib.hid hr
      clear hr
      go_wp2_with fail
      refine HI.out.mono ?_
      rintro e w3 ⟨rfl, hb3⟩
      have HB3 := Lib.hid (HB.out.trans (hb3.mono HB.out.size))
      clear hb3 HI
      go_wp2_with fail
      go_roundw
      case rel =>
       refine ⟨i + 1, rfl, HLL.out, ?_, HB3.out⟩
       rw [HRR.out, HTK.out]
       have hin := HIN.out
       congr 1
       rw [Bool.eq_iff_iff, decide_eq_true_eq, decide_eq_true_eq, List.mem_append, List.mem_singleton]
       exact ⟨fun e => .inr e, fun e => by rcases e with e | e; exact absurd e hin; exact e⟩
      case measure => show 15 - (i + 1 : Nat) < 15 - i; have := HLL.out; omega
  · have hlI : ¬ (i : Int) < 15 := by omega
    have hii : i = 15 := by omega
    subst hii
    rw [show knownS.take 15 = knownS from rfl]
    have HB := Lib.hid hb
    clear hb hl hi
    have hb := HB.out
    replace HP := Lib.hid (HP.out.below hb)
    replace G1 := Lib.hid (zd G1.out (zb hb (some gp)))
    replace R4 := Lib.hid (ze hb R4.out R4.out.lt)
    replace R6 := Lib.hid (ze hb R6.out R6.out.lt)
    replace T1 := Lib.hid ((hb.cell (World.block_lt_of_cell? _ _ T1.out)).trans T1.out)
    replace HL5 : Hid (g5 < _) := Nat.lt_of_lt_of_le HL5.out hb.size
    clear hb
    clear HB HCN
    rw [decide_eq_true ((known_mem _).1 (HS.out ▸ HKN.out))]
    obtain ⟨gq, cq0, Lq, kq, qq, -⟩ := HP.out.ex
    have f4 : wr.cell? ⟨gp, 4, none⟩ = some (.int .i64 many) := qq.cell (show 4 < 5 by omega)
    have z4x := qq.frozen 4
    clear qq
    have h8 := HP.out.setM (m := m1) hm501
    have g8 := za G1.out (.inl rfl) (p := ⟨gp, 4, none⟩) (.int .i64 (m1 : Nat))
    have hgs : wr.grownBy (wr.setCell ⟨gp, 4, none⟩ (.int .i64 (m1 : Nat))) (some gp) := za (zf _ _) (.inl rfl) _
    have r48 := zc hgs R4.out HN4.out
    have r68 := zc hgs R6.out HN6.out
    have t18 : World.cell? (wr.setCell ⟨gp, 4, none⟩ (.int .i64 (m1 : Nat))) ⟨g5, 1, none⟩ = some (.string (mkS s)) := (grown_cell hgs (p := ⟨g5, 1, none⟩) (World.block_lt_of_cell? _ _ T1.out) HN5.out.1).trans T1.out
    have n5p := HN5.out.1
    have n56 := HN5.out.2.2
    have n65 : g6 ≠ g5 := fun e => HN5.out.2.2 e.symm
    have n54 := HN5.out.2.1
    clear HP G1 R4 R6 T1 hgs
    have q0 : ((mkS s).toList == ([104, 97, 108, 116] : List UInt8)) = false := by rw [show ([104, 97, 108, 116] : List UInt8) = (mkS [104, 97, 108, 116]).toList from (by rw [Lib.toList_data]; rfl), mkS_eq HS8.out (by decide)]; exact decide_eq_false (by rw [HS.out]; exact HNS.out _ (by decide))
    have q1 : ((mkS s).toList == ([104, 97, 115, 104] : List UInt8)) = false := by rw [show ([104, 97, 115, 104] : List UInt8) = (mkS [104, 97, 115, 104]).toList from (by rw [Lib.toList_data]; rfl), mkS_eq HS8.out (by decide)]; exact decide_eq_false (by rw [HS.out]; exact HNS.out _ (by decide))
    have q2 : ((mkS s).toList == ([104, 97, 115, 104, 100] : List UInt8)) = false := by rw [show ([104, 97, 115, 104, 100] : List UInt8) = (mkS [104, 97, 115, 104, 100]).toList from (by rw [Lib.toList_data]; rfl), mkS_eq HS8.out (by decide)]; exact decide_eq_false (by rw [HS.out]; exact HNS.out _ (by decide))
    have q3 : ((mkS s).toList == ([111, 117, 116] : List UInt8)) = false := by rw [show ([111, 117, 116] : List UInt8) = (mkS [111, 117, 116]).toList from (by rw [Lib.toList_data]; rfl), mkS_eq HS8.out (by decide)]; exact decide_eq_false (by rw [HS.out]; exact HNS.out _ (by decide))
    have q4 : ((mkS s).toList == ([122, 101, 114, 111] : List UInt8)) = false := by rw [show ([122, 101, 114, 111] : List UInt8) = (mkS [122, 101, 114, 111]).toList from (by rw [Lib.toList_data]; rfl), mkS_eq HS8.out (by decide)]; exact decide_eq_false (by rw [HS.out]; exact HNS.out _ (by decide))
    have q5 : ((mkS s).toList == ([115, 119, 97, 112] : List UInt8)) = false := by rw [show ([115, 119, 97, 112] : List UInt8) = (mkS [115, 119, 97, 112]).toList from (by rw [Lib.toList_data]; rfl), mkS_eq HS8.out (by decide)]; exact decide_eq_false (by rw [HS.out]; exact HNS.out _ (by decide))
    have q6 : ((mkS s).toList == ([126] : List UInt8)) = false := by rw [show ([126] : List UInt8) = (mkS [126]).toList from (by rw [Lib.toList_data]; rfl), mkS_eq HS8.out (by decide)]; exact decide_eq_false (by rw [HS.out]; exact HNS.out _ (by decide))
    have q7 : ((mkS s).toList == ([114] : List UInt8)) = false := by rw [show ([114] : List UInt8) = (mkS [114]).toList from (by rw [Lib.toList_data]; rfl), mkS_eq HS8.out (by decide)]; exact decide_eq_false (by rw [HS.out]; exact HNS.out _ (by decide))
    have q8 : ((mkS s).toList == ([105, 102] : List UInt8)) = false := by rw [show ([105, 102] : List UInt8) = (mkS [105, 102]).toList from (by rw [Lib.toList_data]; rfl), mkS_eq HS8.out (by decide)]; exact decide_eq_false (by rw [HS.out]; exact HNS.out _ (by decide))
    have q9 : ((mkS s).toList == ([100, 111] : List UInt8)) = false := by rw [show ([100, 111] : List UInt8) = (mkS [100, 111]).toList from (by rw [Lib.toList_data]; rfl), mkS_eq HS8.out (by decide)]; exact decide_eq_false (by rw [HS.out]; exact HNS.out _ (by decide))
    have HM := Lib.hid (ronplace_any h8)
    have HHG := Lib.hid g8
    have HHR4 := Lib.hid r48
    have HHR6 := Lib.hid r68
    clear g8 r48 r68
    go_wp2_with fail
    refine HM.out.mono ?_
    rintro e WA ⟨⟨io, id0, is0, im0⟩, l1, b1, rfl, he, hrn, hgn⟩
    have ge := zd HHG.out hgn
    have r4e := zc hgn HHR4.out HN4.out
    have r6e := zc hgn HHR6.out HN6.out
    clear HM HHG HHR4 HHR6
    dsimp only [insC]
    have HRN := Lib.hid hrn
    clear hrn hgn h8
    clear q0 q1 q2 q3 q4 q5 q6 q7 q8 q9
    have hgs := (za (za (za (za (zf WA (some g6)) (.inl rfl) (p := ⟨g6, 1, none⟩) (.int .u8 (io : Nat))) (.inl rfl) (p := ⟨g6, 2, none⟩) (.int .i64 id0)) (.inl rfl) (p := ⟨g6, 3, none⟩) (.int .i64 is0)) (.inl rfl) (p := ⟨g6, 4, none⟩) (.int .i64 im0))
    have hA := he.kept (row := some g6) hgs (fun k e => by injection e with e; subst e; exact HG4B.out.2)
    have gA := (za (za (za (za ge (.inr HG4W.out.2) (p := ⟨g6, 1, none⟩) (.int .u8 (io : Nat))) (.inr HG4W.out.2) (p := ⟨g6, 2, none⟩) (.int .i64 id0)) (.inr HG4W.out.2) (p := ⟨g6, 3, none⟩) (.int .i64 is0)) (.inr HG4W.out.2) (p := ⟨g6, 4, none⟩) (.int .i64 im0))
    have r4A := zc hgs r4e HN46.out
    have r6A := st_setI ⟨io, id0, is0, im0⟩ r6e
    have y1 := r6e.cell (show 1 < 13 by omega)
    have x1 := r6e.frozen 1
    have y2 := r6e.cell (show 2 < 13 by omega)
    have x2 := r6e.frozen 2
    have y3 := r6e.cell (show 3 < 13 by omega)
    have x3 := r6e.frozen 3
    have y4 := r6e.cell (show 4 < 13 by omega)
    have x4 := r6e.frozen 4
    dsimp only [stF, i0, c0] at y1 y2 y3 y4
    clear he ge r4e r6e hgs
    have H6 := Lib.hid hA
    have HG := Lib.hid gA
    have HR6 := Lib.hid r6A
    have HR4' := Lib.hid r4A
    have HTB := Lib.hid (Tr.nil ((((WA.setCell ⟨g6, 1, none⟩ (.int .u8 (io : Nat))).setCell ⟨g6, 2, none⟩ (.int .i64 id0)).setCell ⟨g6, 3, none⟩ (.int .i64 is0)).setCell ⟨g6, 4, none⟩ (.int .i64 im0)) (fun k => g6 < k))
    have HTE := Lib.hid (Tr.nil ((((WA.setCell ⟨g6, 1, none⟩ (.int .u8 (io : Nat))).setCell ⟨g6, 2, none⟩ (.int .i64 id0)).setCell ⟨g6, 3, none⟩ (.int .i64 is0)).setCell ⟨g6, 4, none⟩ (.int .i64 im0)) (fun k => g6 < k))
    have a0 := r6A.cell (show 0 < 13 by omega)
    have b0 := r4A.cell (show 0 < 13 by omega)
    have z0 := r4A.frozen 0
    have a1 := r6A.cell (show 1 < 13 by omega)
    have b1 := r4A.cell (show 1 < 13 by omega)
    have z1 := r4A.frozen 1
    have a2 := r6A.cell (show 2 < 13 by omega)
    have b2 := r4A.cell (show 2 < 13 by omega)
    have z2 := r4A.frozen 2
    have a3 := r6A.cell (show 3 < 13 by omega)
    have b3 := r4A.cell (show 3 < 13 by omega)
    have z3 := r4A.frozen 3
    have a4 := r6A.cell (show 4 < 13 by omega)
    have b4 := r4A.cell (show 4 < 13 by omega)
    have z4 := r4A.frozen 4
    have a5 := r6A.cell (show 5 < 13 by omega)
    have b5 := r4A.cell (show 5 < 13 by omega)
    have z5 := r4A.frozen 5
    have a6 := r6A.cell (show 6 < 13 by omega)
    have b6 := r4A.cell (show 6 < 13 by omega)
    have z6 := r4A.frozen 6
    have a7 := r6A.cell (show 7 < 13 by omega)
    have b7 := r4A.cell (show 7 < 13 by omega)
    have z7 := r4A.frozen 7
    have a8 := r6A.cell (show 8 < 13 by omega)
    have b8 := r4A.cell (show 8 < 13 by omega)
    have z8 := r4A.frozen 8
    have a9 := r6A.cell (show 9 < 13 by omega)
    have b9 := r4A.cell (show 9 < 13 by omega)
    have z9 := r4A.frozen 9
    have a10 := r6A.cell (show 10 < 13 by omega)
    have b10 := r4A.cell (show 10 < 13 by omega)
    have z10 := r4A.frozen 10
    have a11 := r6A.cell (show 11 < 13 by omega)
    have b11 := r4A.cell (show 11 < 13 by omega)
    have z11 := r4A.frozen 11
    have a12 := r6A.cell (show 12 < 13 by omega)
    have b12 := r4A.cell (show 12 < 13 by omega)
    have z12 := r4A.frozen 12
    dsimp only [stF, i0, c0] at a0 b0 a1 b1 a2 b2 a3 b3 a4 b4 a5 b5 a6 b6 a7 b7 a8 b8 a9 b9 a10 b10 a11 b11 a12 b12
    clear hA gA r6A r4A
    go_wp2_with fail
    (try simp only [Exit.inBlock, Exit.then])
    have hx0 := (za (za (za (za (za (za (za (za (za (za (za (za (za (zf ((((WA.setCell ⟨g6, 1, none⟩ (.int .u8 (io : Nat))).setCell ⟨g6, 2, none⟩ (.int .i64 id0)).setCell ⟨g6, 3, none⟩ (.int .i64 is0)).setCell ⟨g6, 4, none⟩ (.int .i64 im0)) (some g4)) (.inl rfl) (p := ⟨g4, 0, none⟩) (.int .u8 (1 : Nat))) (.inl rfl) (p := ⟨g4, 1, none⟩) (.int .u8 (io : Nat))) (.inl rfl) (p := ⟨g4, 2, none⟩) (.int .i64 id0)) (.inl rfl) (p := ⟨g4, 3, none⟩) (.int .i64 is0)) (.inl rfl) (p := ⟨g4, 4, none⟩) (.int .i64 im0)) (.inl rfl) (p := ⟨g4, 5, none⟩) (.bool false)) (.inl rfl) (p := ⟨g4, 6, none⟩) (.int .u8 (0 : Nat))) (.inl rfl) (p := ⟨g4, 7, none⟩) (.int .i64 0)) (.inl rfl) (p := ⟨g4, 8, none⟩) (.int .i64 0)) (.inl rfl) (p := ⟨g4, 9, none⟩) (.int .i64 0)) (.inl rfl) (p := ⟨g4, 10, none⟩) (.slice none 0 0)) (.inl rfl) (p := ⟨g4, 11, none⟩) (.slice none 0 0)) (.inl rfl) (p := ⟨g4, 12, none⟩) (.int .i64 (tk.ln : Nat)))
    have hx1 := st_all 1 ⟨io, id0, is0, im0⟩ ⟨false, ⟨0, 0, 0, 0⟩⟩ (.slice none 0 0) (.slice none 0 0) ((tk.ln : Nat)) HR4'.out
    have hx2 := H6.out.kept (row := some g4) hx0 (fun k e => by injection e with e; subst e; exact HG4B.out.1)
    have hx3 := (za (za (za (za (za (za (za (za (za (za (za (za (za HG.out (.inr HG4W.out.1) (p := ⟨g4, 0, none⟩) (.int .u8 (1 : Nat))) (.inr HG4W.out.1) (p := ⟨g4, 1, none⟩) (.int .u8 (io : Nat))) (.inr HG4W.out.1) (p := ⟨g4, 2, none⟩) (.int .i64 id0)) (.inr HG4W.out.1) (p := ⟨g4, 3, none⟩) (.int .i64 is0)) (.inr HG4W.out.1) (p := ⟨g4, 4, none⟩) (.int .i64 im0)) (.inr HG4W.out.1) (p := ⟨g4, 5, none⟩) (.bool false)) (.inr HG4W.out.1) (p := ⟨g4, 6, none⟩) (.int .u8 (0 : Nat))) (.inr HG4W.out.1) (p := ⟨g4, 7, none⟩) (.int .i64 0)) (.inr HG4W.out.1) (p := ⟨g4, 8, none⟩) (.int .i64 0)) (.inr HG4W.out.1) (p := ⟨g4, 9, none⟩) (.int .i64 0)) (.inr HG4W.out.1) (p := ⟨g4, 10, none⟩) (.slice none 0 0)) (.inr HG4W.out.1) (p := ⟨g4, 11, none⟩) (.slice none 0 0)) (.inr HG4W.out.1) (p := ⟨g4, 12, none⟩) (.int .i64 (tk.ln : Nat)))
    have hx4 := HTB.out.grown hx0 (fun k hk e => by injection e with e; have := HE3.out; have hk' : g6 < k := hk; omega)
    have hx5 := HTE.out.grown hx0 (fun k hk e => by injection e with e; have := HE3.out; have hk' : g6 < k := hk; omega)
    have hx4 := hx4.mono (S' := fun k => w.heap.size ≤ k) (fun k hk _ => by have := HG4.out; have := HE3.out; have hk' : g6 < k := hk; omega)
    have hx5 := hx5.mono (S' := fun k => w.heap.size ≤ k) (fun k hk _ => by have := HG4.out; have := HE3.out; have hk' : g6 < k := hk; omega)
    clear hx0
    dsimp only at hx1 hx2 hx3 hx4 hx5 ⊢
    generalize (((((((((((((((((WA.setCell ⟨g6, 1, none⟩ (.int .u8 (io : Nat))).setCell ⟨g6, 2, none⟩ (.int .i64 id0)).setCell ⟨g6, 3, none⟩ (.int .i64 is0)).setCell ⟨g6, 4, none⟩ (.int .i64 im0)).setCell ⟨g4, 0, none⟩ (.int .u8 (1 : Nat))).setCell ⟨g4, 1, none⟩ (.int .u8 (io : Nat))).setCell ⟨g4, 2, none⟩ (.int .i64 id0)).setCell ⟨g4, 3, none⟩ (.int .i64 is0)).setCell ⟨g4, 4, none⟩ (.int .i64 im0)).setCell ⟨g4, 5, none⟩ (.bool false)).setCell ⟨g4, 6, none⟩ (.int .u8 (0 : Nat))).setCell ⟨g4, 7, none⟩ (.int .i64 0)).setCell ⟨g4, 8, none⟩ (.int .i64 0)).setCell ⟨g4, 9, none⟩ (.int .i64 0)).setCell ⟨g4, 10, none⟩ (.slice none 0 0)).setCell ⟨g4, 11, none⟩ (.slice none 0 0)).setCell ⟨g4, 12, none⟩ (.int .i64 (tk.ln : Nat))) = W99 at hx1 hx2 hx3 hx4 hx5 ⊢
    refine bodyPost_ret (st_results rfl _ _ g4 rfl hx1) rfl ?_
    exact ⟨⟨1, ⟨io, id0, is0, im0⟩, ⟨false, ⟨0, 0, 0, 0⟩⟩, .nil, .nil, (tk.ln : Nat)⟩, .slice none 0 0, .slice none 0 0, l1, _, m1, rfl, hx4, hx5, hx2, (fun _ => HM500.out), by rw [HT.out, HM1.out]; exact kst (α := Unit) (st_on HL.out HKB.out HKU.out HKF.out HQ1.out HQ2.out HQ3.out HQ4.out) HRN.out, hx3⟩
set_option maxRecDepth 100000 in
set_option maxHeartbeats 40000000 in
theorem rstmt_longw (dp : Nat) (hd21 : dp ≤ 21) (deep : Bool) (hq : deep = decide (20 < dp)) (blk : Blk) (h : RS B w gp l none many) (hm : many ≤ 500) (hk : Known (hd l).s) (hlong : 500 < many + 1 ∨ deep = true) (hkk : (hd l).k = 1) :
  Calls Try.prog 77 #[.pointer (some ⟨gp, 0, none⟩), .int .i64 dp] w (RStPost (stmt deep blk) B gp w l many) := by
 have HKN := Lib.hid hk
 have HL := Lib.hid hlong
 have HKK := Lib.hid hkk
 obtain ⟨m1, hm1⟩ : ∃ m1, m1 = many + 1 := ⟨_, rfl⟩
 have hw1 : IntKind.i64.wrap ((many : Int) + 1) = (m1 : Int) := by rw [IntKind.wrap_i64]; omega; all_goals omega
 have hm501 : m1 ≤ 501 := by omega
 have htest : (500 : Int) < m1 ∨ (¬ (500 : Int) < m1 ∧ (20 : Int) < dp) := by
  by_cases h5 : 500 < many + 1
  · left; omega
  · right
    rcases hlong with h | h
    · omega
    · rw [h] at hq; have := of_decide_eq_true hq.symm; omega
 have HTEST := Lib.hid htest
 clear hk hlong hq hm hd21 hm1 hkk htest
 have hb1 : Below w.heap.size w (w.alloc zZ1) := (Below.refl _ _).alloc (Nat.le_refl _) _
 have h1 := h.below hb1
 have hr4 := st_row (k := 0) (i := i0) (c := c0) (vb := .slice none 0 0) (ve := .slice none 0 0) (ln := 0) (heap_alloc_new w zZ1)
 obtain ⟨tk, htk⟩ : ∃ tk, tk = hd l := ⟨_, rfl⟩
 have hN1 := rnow_any h1
 rw [← htk] at hN1
 have HN1 := Lib.hid hN1
 have HW := Lib.hid (And.intro h.bw h.bp)
 have HOK : Hid (TokOk tk) := by rw [htk]; exact h.tl.hd_ok
 have H1 := Lib.hid h1
 have HB1 := Lib.hid hb1
 have HR4 := Lib.hid hr4
 have HT := Lib.hid htk
 have hf3 := tok_f3
 have e1 : (w.alloc zZ1).heap.size = w.heap.size + 1 := World.size_alloc _ _
 have HE1 := Lib.hid e1
 clear h htk h1 hb1 hr4 hN1 e1
 go_enter Try.func77, Try.ntmps77
 go_wp2_with fail
 have hgg := HE1.out
 have hp := H1.out
 have r4 := HR4.out
 have hbw := HB1.out
 have HN1' := HN1.out
 clear H1 HR4 HB1 HN1 HE1
 generalize w.alloc zZ1 = W1 at *
 obtain ⟨g4, hg4⟩ : ∃ g4, g4 = w.heap.size := ⟨_, rfl⟩
 rw [← hg4] at r4 hgg ⊢
 have HG4 := Lib.hid hg4
 have HH := Lib.hid (And.intro hp (And.intro r4 (And.intro hbw hgg)))
 clear hp r4 hbw hgg hg4
 refine HN1'.mono ?_
 rintro e Wa ⟨rfl, hba⟩
 clear HN1'
 have hba2 : Below Wa.heap.size Wa (Wa.alloc (zZ3 tk)) := (Below.refl _ _).alloc (Nat.le_refl _) _
 have h2 := (HH.out.1.below hba).below hba2
 have hN2 := rnow_any h2
 rw [← HT.out] at hN2
 have HN2x := Lib.hid hN2
 have HP2 := Lib.hid h2
 have R42 := Lib.hid (ze hba2 (ze hba HH.out.2.1 HH.out.2.1.lt) (ze hba HH.out.2.1 HH.out.2.1.lt).lt)
 have R62 := Lib.hid (st_row (k := 1) (i := i0) (c := c0) (vb := .slice none 0 0) (ve := .slice none 0 0) (ln := tk.ln) (heap_alloc_new Wa (zZ3 tk)))
 have HGA := Lib.hid (zd (zb HH.out.2.2.1 (some gp)) (zd (zb hba (some gp)) (zb hba2 (some gp))))
 have HE3 : Hid (g4 < Wa.heap.size ∧ True ∧ True) := ⟨by have := HH.out.2.2.2; have := hba.size; omega, trivial, trivial⟩
 clear h2 hN2 hba hba2 HH
 go_wp2_with fail
 generalize Wa.alloc (zZ3 tk) = Wc at *
 obtain ⟨g6, hg6⟩ : ∃ g6, g6 = Wa.heap.size := ⟨_, rfl⟩
 rw [← hg6] at R62 HE3 ⊢
 clear hg6 hf3 Wa
 refine HN2x.out.mono ?_
 rintro e Wb ⟨rfl, hb⟩
 have hbt : Below Wb.heap.size Wb (Wb.alloc (.cells #[.int .u8 tk.k, .string (mkS tk.s), .int .i64 tk.n, .int .i64 tk.ln] 60)) := (Below.refl _ _).alloc (Nat.le_refl _) _
 have HP := Lib.hid ((HP2.out.below hb).below hbt)
 have R4 := Lib.hid (ze hbt (ze hb R42.out R42.out.lt) (ze hb R42.out R42.out.lt).lt)
 have R6 := Lib.hid (ze hbt (ze hb R62.out R62.out.lt) (ze hb R62.out R62.out.lt).lt)
 have G1 := Lib.hid (zd HGA.out (zd (zb hb (some gp)) (zb hbt (some gp))))
 obtain ⟨d0, d1, d2, d3⟩ := al_four Wb tk
 have HD1 := Lib.hid d1
 have HL5x : Hid (Wb.heap.size < (Wb.alloc (.cells #[.int .u8 tk.k, .string (mkS tk.s), .int .i64 tk.n, .int .i64 tk.ln] 60)).heap.size) := by unfold Hid; rw [World.size_alloc]; omega
 have HN46 : Hid (g4 ≠ g6) := by have := HE3.out; unfold Hid; omega
 have HN64 : Hid (g6 ≠ g4) := by have := HE3.out; unfold Hid; omega
 have HN4 : Hid (g4 ≠ gp) := by have := HW.out; have := HG4.out; unfold Hid; omega
 have HN6 : Hid (g6 ≠ gp) := by have := HW.out; have := HG4.out; have := HE3.out; unfold Hid; omega
 have HG4B : Hid (B ≤ g4 ∧ B ≤ g6) := by have := HW.out; have := HG4.out; have := HE3.out; unfold Hid; omega
 have HG4W : Hid (w.heap.size ≤ g4 ∧ w.heap.size ≤ g6) := by have := HG4.out; have := HE3.out; unfold Hid; omega
 have HN5 : Hid (Wb.heap.size ≠ gp ∧ Wb.heap.size ≠ g4 ∧ Wb.heap.size ≠ g6) := by
  have h1 := hb.size; have h2 := R62.out.lt; have := HW.out; have := HG4.out; have := HE3.out; unfold Hid; omega
 obtain ⟨s, hs⟩ : ∃ s, s = tk.s := ⟨_, rfl⟩
 have HS8 : Hid (∀ x ∈ s, x < 256) := by rw [hs]; exact HOK.out.1
 have HS : Hid (s = (hd l).s) := by rw [← HT.out]; exact hs
 clear HN2x HP2 R42 R62 HGA hb hbt d2 d3
 have KK : Hid (tk.k = 1) := by unfold Hid; rw [HT.out]; exact HKK.out
 have k1I : ((tk.k : Int) != 1) = false := by rw [show tk.k = 1 from KK.out]; rfl
 go_wp2_with fail
 try rw [show Wb.heap.size + 1 = (Wb.alloc (.cells #[.int .u8 tk.k, .string (mkS tk.s), .int .i64 tk.n, .int .i64 tk.ln] 60)).heap.size from (World.size_alloc _ _).symm]
 obtain ⟨g5, hg5⟩ : ∃ g5, g5 = Wb.heap.size := ⟨_, rfl⟩
 rw [← hs] at HD1 ⊢
 have T1 : Hid ((Wb.alloc (.cells #[.int .u8 tk.k, .string (mkS s), .int .i64 tk.n, .int .i64 tk.ln] 60)).cell? ⟨g5, 1, none⟩ = some (.string (mkS s))) := by rw [hg5]; exact HD1.out
 have HL5 := HL5x
 rw [← hs] at HP R4 R6 G1 HL5
 rw [← hg5] at HL5 HN5 ⊢
 generalize Wb.alloc (.cells #[.int .u8 tk.k, .string (mkS s), .int .i64 tk.n, .int .i64 tk.ln] 60) = Wd at *
 clear hg5 HD1 HL5x d0 d1 Wb hs
 clear k1I
 have hcn : ∀ i (hi : i < knownS.length), (Wd.alloc zZ5).cell? ⟨(World.heap Wd).size, i, none⟩ = some (.string (mkS knownS[i])) := fun i hi => by
  rw [cell_of_row _ _ _ _ _ _ (heap_alloc_new _ _)]
  match i, hi with
  | 0, _ => rfl
  | 1, _ => rfl
  | 2, _ => rfl
  | 3, _ => rfl
  | 4, _ => rfl
  | 5, _ => rfl
  | 6, _ => rfl
  | 7, _ => rfl
  | 8, _ => rfl
  | 9, _ => rfl
  | 10, _ => rfl
  | 11, _ => rfl
  | 12, _ => rfl
  | 13, _ => rfl
  | 14, _ => rfl
 have HCN := Lib.hid hcn
 have hb : Below (World.heap Wd).size Wd (Wd.alloc zZ5) := (Below.refl _ _).alloc (Nat.le_refl _) _
 replace HP := Lib.hid (HP.out.below hb)
 replace G1 := Lib.hid (zd G1.out (zb hb (some gp)))
 replace R4 := Lib.hid (ze hb R4.out R4.out.lt)
 replace R6 := Lib.hid (ze hb R6.out R6.out.lt)
 replace T1 := Lib.hid ((hb.cell (World.block_lt_of_cell? _ _ T1.out)).trans T1.out)
 replace HL5 : Hid (g5 < _) := Nat.lt_of_lt_of_le HL5.out hb.size
 clear hb
 clear hcn
 generalize World.alloc Wd zZ5 = X at *
 generalize (World.heap Wd).size = g7 at *
 have htest := HTEST.out
 have R0 : ∃ i : Nat, (Value.int .i64 0) = .int .i64 i ∧ i ≤ 15 ∧ (Value.bool false) = .bool (decide (s ∈ knownS.take i)) ∧ Below X.heap.size X X := ⟨0, rfl, by omega, by simp, Below.refl _ _⟩
 go_loopw [8, 9] (fun v8 v9 wr => ∃ i : Nat, v9 = .int .i64 i ∧ i ≤ 15 ∧ v8 = .bool (decide (s ∈ knownS.take i)) ∧ Below X.heap.size X wr) (fun _ v _ => 15 - (intOf v).toNat)
 case atStart => exact R0
 case round =>
  clear R0
  obtain ⟨i, rfl, hi, rfl, hb⟩ := hrel
  by_cases hl : i < 15
  · have hlI : (i : Int) < 15 := by omega
    have i0' : (0 : Int) ≤ i := by omega
    have iT : ((i : Int)).toNat = i := by omega
    have hwi : IntKind.i64.wrap ((i : Int) + 1) = ((i + 1 : Nat) : Int) := by rw [IntKind.wrap_i64]; omega; all_goals omega
    have hlk : i < knownS.length := hl
    have hci := (hb.cell (World.block_lt_of_cell? _ _ (HCN.out i hlk))).trans (HCN.out i hlk)
    obtain ⟨x, hx⟩ : ∃ x, x = knownS[i] := ⟨_, rfl⟩
    rw [← hx] at hci
    have htk : knownS.take (i + 1) = knownS.take i ++ [x] := by rw [hx, List.take_succ_eq_append_getElem hlk]
    have hx8 := knownS_b8 x (by rw [hx]; exact List.getElem_mem hlk)
    have HTK := Lib.hid htk
    have HB := Lib.hid hb
    by_cases hin : s ∈ knownS.take i
    · have hin2 : s ∈ knownS.take (i + 1) := by rw [htk]; exact List.mem_append_left _ hin
      rw [decide_eq_true hin]
      have HIN := Lib.hid hin2
      have HLL := Lib.hid hl
      clear hin hin2 htk hx hx8 hb hl
      go_wp2_with fail
      go_roundw
      case rel => exact ⟨i + 1, rfl, HLL.out, by rw [decide_eq_true HIN.out], HB.out⟩
      case measure => show 15 - (i + 1 : Nat) < 15 - i; have := HLL.out; omega
    · rw [decide_eq_false hin]
      have HI := Lib.hid (ris_any (HP.out.below hb) (mkS x) x rfl hx8.1 hx8.2)
      rw [← HS.out] at HI
      have HIN := Lib.hid hin
      have HLL := Lib.hid hl
      clear hin htk hx hx8 hb hl
      obtain ⟨r, hr⟩ : ∃ r, r = decide (s = x) := ⟨_, rfl⟩
      rw [← hr] at HI
      have HRR := Lib.hid hr
      clear hr
      go_wp2_with fail
      refine HI.out.mono ?_
      rintro e w3 ⟨rfl, hb3⟩
      have HB3 := Lib.hid (HB.out.trans (hb3.mono HB.out.size))
      clear hb3 HI
      go_wp2_with fail
      go_roundw
      case rel =>
       refine ⟨i + 1, rfl, HLL.out, ?_, HB3.out⟩
       rw [HRR.out, HTK.out]
       have hin := HIN.out
       congr 1
       rw [Bool.eq_iff_iff, decide_eq_true_eq, decide_eq_true_eq, List.mem_append, List.mem_singleton]
       exact ⟨fun e => .inr e, fun e => by rcases e with e | e; exact absurd e hin; exact e⟩
      case measure => show 15 - (i + 1 : Nat) < 15 - i; have := HLL.out; omega
  · have hlI : ¬ (i : Int) < 15 := by omega
    have hii : i = 15 := by omega
    subst hii
    rw [show knownS.take 15 = knownS from rfl]
    have HB := Lib.hid hb
    clear hb hl hi
    have hb := HB.out
    replace HP := Lib.hid (HP.out.below hb)
    replace G1 := Lib.hid (zd G1.out (zb hb (some gp)))
    replace R4 := Lib.hid (ze hb R4.out R4.out.lt)
    replace R6 := Lib.hid (ze hb R6.out R6.out.lt)
    replace T1 := Lib.hid ((hb.cell (World.block_lt_of_cell? _ _ T1.out)).trans T1.out)
    replace HL5 : Hid (g5 < _) := Nat.lt_of_lt_of_le HL5.out hb.size
    clear hb
    clear HB HCN
    rw [decide_eq_true ((known_mem _).1 (HS.out ▸ HKN.out))]
    obtain ⟨gq, cq0, Lq, kq, qq, -⟩ := HP.out.ex
    have f4 : wr.cell? ⟨gp, 4, none⟩ = some (.int .i64 many) := qq.cell (show 4 < 5 by omega)
    have z4x := qq.frozen 4
    clear qq
    have h8 := HP.out.setM (m := m1) hm501
    have g8 := za G1.out (.inl rfl) (p := ⟨gp, 4, none⟩) (.int .i64 (m1 : Nat))
    have hgs : wr.grownBy (wr.setCell ⟨gp, 4, none⟩ (.int .i64 (m1 : Nat))) (some gp) := za (zf _ _) (.inl rfl) _
    have r48 := zc hgs R4.out HN4.out
    have r68 := zc hgs R6.out HN6.out
    have t18 : World.cell? (wr.setCell ⟨gp, 4, none⟩ (.int .i64 (m1 : Nat))) ⟨g5, 1, none⟩ = some (.string (mkS s)) := (grown_cell hgs (p := ⟨g5, 1, none⟩) (World.block_lt_of_cell? _ _ T1.out) HN5.out.1).trans T1.out
    have n5p := HN5.out.1
    have n56 := HN5.out.2.2
    have n65 : g6 ≠ g5 := fun e => HN5.out.2.2 e.symm
    have n54 := HN5.out.2.1
    clear HP G1 R4 R6 T1 hgs
    rcases htest with htest | ⟨htest, htest2⟩
    all_goals
     have HM := Lib.hid (rfail_any h8 3 (by decide))
     have HHG := Lib.hid g8
     have HHR4 := Lib.hid r48
     have HHR6 := Lib.hid r68
     clear g8 r48 r68
     go_wp2_with fail
     refine HM.out.mono ?_
     rintro e WZ ⟨rfl, h9, hgn⟩
     have g9 := zd HHG.out hgn
     have r49 := zc hgn HHR4.out HN4.out
     have r69 := zc hgn HHR6.out HN6.out
     clear HM HHG HHR4 HHR6
     clear h8 hgn
     have H6 := Lib.hid h9
     have HG := Lib.hid g9
     have HR6 := Lib.hid r69
     have HR4' := Lib.hid r49
     have HTB := Lib.hid (Tr.nil WZ (fun k => g6 < k))
     have HTE := Lib.hid (Tr.nil WZ (fun k => g6 < k))
     have a0 := r69.cell (show 0 < 13 by omega)
     have b0 := r49.cell (show 0 < 13 by omega)
     have z0 := r49.frozen 0
     have a1 := r69.cell (show 1 < 13 by omega)
     have b1 := r49.cell (show 1 < 13 by omega)
     have z1 := r49.frozen 1
     have a2 := r69.cell (show 2 < 13 by omega)
     have b2 := r49.cell (show 2 < 13 by omega)
     have z2 := r49.frozen 2
     have a3 := r69.cell (show 3 < 13 by omega)
     have b3 := r49.cell (show 3 < 13 by omega)
     have z3 := r49.frozen 3
     have a4 := r69.cell (show 4 < 13 by omega)
     have b4 := r49.cell (show 4 < 13 by omega)
     have z4 := r49.frozen 4
     have a5 := r69.cell (show 5 < 13 by omega)
     have b5 := r49.cell (show 5 < 13 by omega)
     have z5 := r49.frozen 5
     have a6 := r69.cell (show 6 < 13 by omega)
     have b6 := r49.cell (show 6 < 13 by omega)
     have z6 := r49.frozen 6
     have a7 := r69.cell (show 7 < 13 by omega)
     have b7 := r49.cell (show 7 < 13 by omega)
     have z7 := r49.frozen 7
     have a8 := r69.cell (show 8 < 13 by omega)
     have b8 := r49.cell (show 8 < 13 by omega)
     have z8 := r49.frozen 8
     have a9 := r69.cell (show 9 < 13 by omega)
     have b9 := r49.cell (show 9 < 13 by omega)
     have z9 := r49.frozen 9
     have a10 := r69.cell (show 10 < 13 by omega)
     have b10 := r49.cell (show 10 < 13 by omega)
     have z10 := r49.frozen 10
     have a11 := r69.cell (show 11 < 13 by omega)
     have b11 := r49.cell (show 11 < 13 by omega)
     have z11 := r49.frozen 11
     have a12 := r69.cell (show 12 < 13 by omega)
     have b12 := r49.cell (show 12 < 13 by omega)
     have z12 := r49.frozen 12
     dsimp only [stF, i0, c0] at a0 b0 a1 b1 a2 b2 a3 b3 a4 b4 a5 b5 a6 b6 a7 b7 a8 b8 a9 b9 a10 b10 a11 b11 a12 b12
     clear h9 g9 r69 r49
     go_wp2_with fail
     (try simp only [Exit.inBlock, Exit.then])
     have hx0 := (za (za (za (za (za (za (za (za (za (za (za (za (za (zf WZ (some g4)) (.inl rfl) (p := ⟨g4, 0, none⟩) (.int .u8 (1 : Nat))) (.inl rfl) (p := ⟨g4, 1, none⟩) (.int .u8 (0 : Nat))) (.inl rfl) (p := ⟨g4, 2, none⟩) (.int .i64 0)) (.inl rfl) (p := ⟨g4, 3, none⟩) (.int .i64 0)) (.inl rfl) (p := ⟨g4, 4, none⟩) (.int .i64 0)) (.inl rfl) (p := ⟨g4, 5, none⟩) (.bool false)) (.inl rfl) (p := ⟨g4, 6, none⟩) (.int .u8 (0 : Nat))) (.inl rfl) (p := ⟨g4, 7, none⟩) (.int .i64 0)) (.inl rfl) (p := ⟨g4, 8, none⟩) (.int .i64 0)) (.inl rfl) (p := ⟨g4, 9, none⟩) (.int .i64 0)) (.inl rfl) (p := ⟨g4, 10, none⟩) (.slice none 0 0)) (.inl rfl) (p := ⟨g4, 11, none⟩) (.slice none 0 0)) (.inl rfl) (p := ⟨g4, 12, none⟩) (.int .i64 (tk.ln : Nat)))
     have hx1 := st_all 1 ⟨0, 0, 0, 0⟩ ⟨false, ⟨0, 0, 0, 0⟩⟩ (.slice none 0 0) (.slice none 0 0) ((tk.ln : Nat)) HR4'.out
     have hx2 := H6.out.kept (row := some g4) hx0 (fun k e => by injection e with e; subst e; exact HG4B.out.1)
     have hx3 := (za (za (za (za (za (za (za (za (za (za (za (za (za HG.out (.inr HG4W.out.1) (p := ⟨g4, 0, none⟩) (.int .u8 (1 : Nat))) (.inr HG4W.out.1) (p := ⟨g4, 1, none⟩) (.int .u8 (0 : Nat))) (.inr HG4W.out.1) (p := ⟨g4, 2, none⟩) (.int .i64 0)) (.inr HG4W.out.1) (p := ⟨g4, 3, none⟩) (.int .i64 0)) (.inr HG4W.out.1) (p := ⟨g4, 4, none⟩) (.int .i64 0)) (.inr HG4W.out.1) (p := ⟨g4, 5, none⟩) (.bool false)) (.inr HG4W.out.1) (p := ⟨g4, 6, none⟩) (.int .u8 (0 : Nat))) (.inr HG4W.out.1) (p := ⟨g4, 7, none⟩) (.int .i64 0)) (.inr HG4W.out.1) (p := ⟨g4, 8, none⟩) (.int .i64 0)) (.inr HG4W.out.1) (p := ⟨g4, 9, none⟩) (.int .i64 0)) (.inr HG4W.out.1) (p := ⟨g4, 10, none⟩) (.slice none 0 0)) (.inr HG4W.out.1) (p := ⟨g4, 11, none⟩) (.slice none 0 0)) (.inr HG4W.out.1) (p := ⟨g4, 12, none⟩) (.int .i64 (tk.ln : Nat)))
     have hx4 := HTB.out.grown hx0 (fun k hk e => by injection e with e; have := HE3.out; have hk' : g6 < k := hk; omega)
     have hx5 := HTE.out.grown hx0 (fun k hk e => by injection e with e; have := HE3.out; have hk' : g6 < k := hk; omega)
     have hx4 := hx4.mono (S' := fun k => w.heap.size ≤ k) (fun k hk _ => by have := HG4.out; have := HE3.out; have hk' : g6 < k := hk; omega)
     have hx5 := hx5.mono (S' := fun k => w.heap.size ≤ k) (fun k hk _ => by have := HG4.out; have := HE3.out; have hk' : g6 < k := hk; omega)
     clear hx0
     dsimp only at hx1 hx2 hx3 hx4 hx5 ⊢
     generalize (((((((((((((WZ.setCell ⟨g4, 0, none⟩ (.int .u8 (1 : Nat))).setCell ⟨g4, 1, none⟩ (.int .u8 (0 : Nat))).setCell ⟨g4, 2, none⟩ (.int .i64 0)).setCell ⟨g4, 3, none⟩ (.int .i64 0)).setCell ⟨g4, 4, none⟩ (.int .i64 0)).setCell ⟨g4, 5, none⟩ (.bool false)).setCell ⟨g4, 6, none⟩ (.int .u8 (0 : Nat))).setCell ⟨g4, 7, none⟩ (.int .i64 0)).setCell ⟨g4, 8, none⟩ (.int .i64 0)).setCell ⟨g4, 9, none⟩ (.int .i64 0)).setCell ⟨g4, 10, none⟩ (.slice none 0 0)).setCell ⟨g4, 11, none⟩ (.slice none 0 0)).setCell ⟨g4, 12, none⟩ (.int .i64 (tk.ln : Nat))) = W99 at hx1 hx2 hx3 hx4 hx5 ⊢
     refine bodyPost_ret (st_results rfl _ _ g4 rfl hx1) rfl ?_
     exact ⟨⟨1, ⟨0, 0, 0, 0⟩, ⟨false, ⟨0, 0, 0, 0⟩⟩, .nil, .nil, (tk.ln : Nat)⟩, .slice none 0 0, .slice none 0 0, l, _, m1, rfl, hx4, hx5, hx2, (fun e => by cases e), .err (st_long HKN.out HL.out), hx3⟩
set_option maxRecDepth 100000 in
set_option maxHeartbeats 40000000 in
theorem rstmt_longt (dp : Nat) (hd21 : dp ≤ 21) (deep : Bool) (hq : deep = decide (20 < dp)) (blk : Blk) (h : RS B w gp l none many) (hm : many ≤ 500) (hk : Known (hd l).s) (hlong : 500 < many + 1 ∨ deep = true) (hss : (hd l).s = [126]) :
  Calls Try.prog 77 #[.pointer (some ⟨gp, 0, none⟩), .int .i64 dp] w (RStPost (stmt deep blk) B gp w l many) := by
 have HKN := Lib.hid hk
 have HL := Lib.hid hlong
 have hkk : (hd l).k = 3 := signk h.tl.hd_ok (by rw [hss]; decide) (by rw [hss]; decide)
 have HSS := Lib.hid hss
 clear hss
 have HKK := Lib.hid hkk
 obtain ⟨m1, hm1⟩ : ∃ m1, m1 = many + 1 := ⟨_, rfl⟩
 have hw1 : IntKind.i64.wrap ((many : Int) + 1) = (m1 : Int) := by rw [IntKind.wrap_i64]; omega; all_goals omega
 have hm501 : m1 ≤ 501 := by omega
 have htest : (500 : Int) < m1 ∨ (¬ (500 : Int) < m1 ∧ (20 : Int) < dp) := by
  by_cases h5 : 500 < many + 1
  · left; omega
  · right
    rcases hlong with h | h
    · omega
    · rw [h] at hq; have := of_decide_eq_true hq.symm; omega
 have HTEST := Lib.hid htest
 clear hk hlong hq hm hd21 hm1 hkk htest
 have hb1 : Below w.heap.size w (w.alloc zZ1) := (Below.refl _ _).alloc (Nat.le_refl _) _
 have h1 := h.below hb1
 have hr4 := st_row (k := 0) (i := i0) (c := c0) (vb := .slice none 0 0) (ve := .slice none 0 0) (ln := 0) (heap_alloc_new w zZ1)
 obtain ⟨tk, htk⟩ : ∃ tk, tk = hd l := ⟨_, rfl⟩
 have hN1 := rnow_any h1
 rw [← htk] at hN1
 have HN1 := Lib.hid hN1
 have HW := Lib.hid (And.intro h.bw h.bp)
 have HOK : Hid (TokOk tk) := by rw [htk]; exact h.tl.hd_ok
 have H1 := Lib.hid h1
 have HB1 := Lib.hid hb1
 have HR4 := Lib.hid hr4
 have HT := Lib.hid htk
 have hf3 := tok_f3
 have e1 : (w.alloc zZ1).heap.size = w.heap.size + 1 := World.size_alloc _ _
 have HE1 := Lib.hid e1
 clear h htk h1 hb1 hr4 hN1 e1
 go_enter Try.func77, Try.ntmps77
 go_wp2_with fail
 have hgg := HE1.out
 have hp := H1.out
 have r4 := HR4.out
 have hbw := HB1.out
 have HN1' := HN1.out
 clear H1 HR4 HB1 HN1 HE1
 generalize w.alloc zZ1 = W1 at *
 obtain ⟨g4, hg4⟩ : ∃ g4, g4 = w.heap.size := ⟨_, rfl⟩
 rw [← hg4] at r4 hgg ⊢
 have HG4 := Lib.hid hg4
 have HH := Lib.hid (And.intro hp (And.intro r4 (And.intro hbw hgg)))
 clear hp r4 hbw hgg hg4
 refine HN1'.mono ?_
 rintro e Wa ⟨rfl, hba⟩
 clear HN1'
 have hba2 : Below Wa.heap.size Wa (Wa.alloc (zZ3 tk)) := (Below.refl _ _).alloc (Nat.le_refl _) _
 have h2 := (HH.out.1.below hba).below hba2
 have hN2 := rnow_any h2
 rw [← HT.out] at hN2
 have HN2x := Lib.hid hN2
 have HP2 := Lib.hid h2
 have R42 := Lib.hid (ze hba2 (ze hba HH.out.2.1 HH.out.2.1.lt) (ze hba HH.out.2.1 HH.out.2.1.lt).lt)
 have R62 := Lib.hid (st_row (k := 1) (i := i0) (c := c0) (vb := .slice none 0 0) (ve := .slice none 0 0) (ln := tk.ln) (heap_alloc_new Wa (zZ3 tk)))
 have HGA := Lib.hid (zd (zb HH.out.2.2.1 (some gp)) (zd (zb hba (some gp)) (zb hba2 (some gp))))
 have HE3 : Hid (g4 < Wa.heap.size ∧ True ∧ True) := ⟨by have := HH.out.2.2.2; have := hba.size; omega, trivial, trivial⟩
 clear h2 hN2 hba hba2 HH
 go_wp2_with fail
 generalize Wa.alloc (zZ3 tk) = Wc at *
 obtain ⟨g6, hg6⟩ : ∃ g6, g6 = Wa.heap.size := ⟨_, rfl⟩
 rw [← hg6] at R62 HE3 ⊢
 clear hg6 hf3 Wa
 refine HN2x.out.mono ?_
 rintro e Wb ⟨rfl, hb⟩
 have hbt : Below Wb.heap.size Wb (Wb.alloc (.cells #[.int .u8 tk.k, .string (mkS tk.s), .int .i64 tk.n, .int .i64 tk.ln] 60)) := (Below.refl _ _).alloc (Nat.le_refl _) _
 have HP := Lib.hid ((HP2.out.below hb).below hbt)
 have R4 := Lib.hid (ze hbt (ze hb R42.out R42.out.lt) (ze hb R42.out R42.out.lt).lt)
 have R6 := Lib.hid (ze hbt (ze hb R62.out R62.out.lt) (ze hb R62.out R62.out.lt).lt)
 have G1 := Lib.hid (zd HGA.out (zd (zb hb (some gp)) (zb hbt (some gp))))
 obtain ⟨d0, d1, d2, d3⟩ := al_four Wb tk
 have HD1 := Lib.hid d1
 have HL5x : Hid (Wb.heap.size < (Wb.alloc (.cells #[.int .u8 tk.k, .string (mkS tk.s), .int .i64 tk.n, .int .i64 tk.ln] 60)).heap.size) := by unfold Hid; rw [World.size_alloc]; omega
 have HN46 : Hid (g4 ≠ g6) := by have := HE3.out; unfold Hid; omega
 have HN64 : Hid (g6 ≠ g4) := by have := HE3.out; unfold Hid; omega
 have HN4 : Hid (g4 ≠ gp) := by have := HW.out; have := HG4.out; unfold Hid; omega
 have HN6 : Hid (g6 ≠ gp) := by have := HW.out; have := HG4.out; have := HE3.out; unfold Hid; omega
 have HG4B : Hid (B ≤ g4 ∧ B ≤ g6) := by have := HW.out; have := HG4.out; have := HE3.out; unfold Hid; omega
 have HG4W : Hid (w.heap.size ≤ g4 ∧ w.heap.size ≤ g6) := by have := HG4.out; have := HE3.out; unfold Hid; omega
 have HN5 : Hid (Wb.heap.size ≠ gp ∧ Wb.heap.size ≠ g4 ∧ Wb.heap.size ≠ g6) := by
  have h1 := hb.size; have h2 := R62.out.lt; have := HW.out; have := HG4.out; have := HE3.out; unfold Hid; omega
 obtain ⟨s, hs⟩ : ∃ s, s = tk.s := ⟨_, rfl⟩
 have HS8 : Hid (∀ x ∈ s, x < 256) := by rw [hs]; exact HOK.out.1
 have HS : Hid (s = (hd l).s) := by rw [← HT.out]; exact hs
 clear HN2x HP2 R42 R62 HGA hb hbt d2 d3
 have KK : Hid (tk.k = 3) := by unfold Hid; rw [HT.out]; exact HKK.out
 have k1I : ((tk.k : Int) != 1) = true := by rw [show tk.k = 3 from KK.out]; rfl
 go_wp2_with fail
 try rw [show Wb.heap.size + 1 = (Wb.alloc (.cells #[.int .u8 tk.k, .string (mkS tk.s), .int .i64 tk.n, .int .i64 tk.ln] 60)).heap.size from (World.size_alloc _ _).symm]
 obtain ⟨g5, hg5⟩ : ∃ g5, g5 = Wb.heap.size := ⟨_, rfl⟩
 rw [← hs] at HD1 ⊢
 have T1 : Hid ((Wb.alloc (.cells #[.int .u8 tk.k, .string (mkS s), .int .i64 tk.n, .int .i64 tk.ln] 60)).cell? ⟨g5, 1, none⟩ = some (.string (mkS s))) := by rw [hg5]; exact HD1.out
 have HL5 := HL5x
 rw [← hs] at HP R4 R6 G1 HL5
 rw [← hg5] at HL5 HN5 ⊢
 generalize Wb.alloc (.cells #[.int .u8 tk.k, .string (mkS s), .int .i64 tk.n, .int .i64 tk.ln] 60) = Wd at *
 clear hg5 HD1 HL5x d0 d1 Wb hs
 clear k1I
 have HI0 := ris_any HP.out ⟨#[126]⟩ [126] rfl (by decide) (by decide)
 rw [decide_eq_true HSS.out] at HI0
 have HI := Lib.hid HI0
 clear HI0
 go_wp2_with fail
 refine HI.out.mono ?_
 rintro e We ⟨rfl, hb⟩
 clear HI
 replace HP := Lib.hid (HP.out.below hb)
 replace G1 := Lib.hid (zd G1.out (zb hb (some gp)))
 replace R4 := Lib.hid (ze hb R4.out R4.out.lt)
 replace R6 := Lib.hid (ze hb R6.out R6.out.lt)
 replace T1 := Lib.hid ((hb.cell (World.block_lt_of_cell? _ _ T1.out)).trans T1.out)
 replace HL5 : Hid (g5 < _) := Nat.lt_of_lt_of_le HL5.out hb.size
 clear hb
 go_wp2_with fail
 try rw [show We.heap.size = We.heap.size from rfl]
 have hcn : ∀ i (hi : i < knownS.length), (We.alloc zZ5).cell? ⟨(World.heap We).size, i, none⟩ = some (.string (mkS knownS[i])) := fun i hi => by
  rw [cell_of_row _ _ _ _ _ _ (heap_alloc_new _ _)]
  match i, hi with
  | 0, _ => rfl
  | 1, _ => rfl
  | 2, _ => rfl
  | 3, _ => rfl
  | 4, _ => rfl
  | 5, _ => rfl
  | 6, _ => rfl
  | 7, _ => rfl
  | 8, _ => rfl
  | 9, _ => rfl
  | 10, _ => rfl
  | 11, _ => rfl
  | 12, _ => rfl
  | 13, _ => rfl
  | 14, _ => rfl
 have HCN := Lib.hid hcn
 have hb : Below (World.heap We).size We (We.alloc zZ5) := (Below.refl _ _).alloc (Nat.le_refl _) _
 replace HP := Lib.hid (HP.out.below hb)
 replace G1 := Lib.hid (zd G1.out (zb hb (some gp)))
 replace R4 := Lib.hid (ze hb R4.out R4.out.lt)
 replace R6 := Lib.hid (ze hb R6.out R6.out.lt)
 replace T1 := Lib.hid ((hb.cell (World.block_lt_of_cell? _ _ T1.out)).trans T1.out)
 replace HL5 : Hid (g5 < _) := Nat.lt_of_lt_of_le HL5.out hb.size
 clear hb
 clear hcn
 generalize World.alloc We zZ5 = X at *
 generalize (World.heap We).size = g7 at *
 have htest := HTEST.out
 have R0 : ∃ i : Nat, (Value.int .i64 0) = .int .i64 i ∧ i ≤ 15 ∧ (Value.bool false) = .bool (decide (s ∈ knownS.take i)) ∧ Below X.heap.size X X := ⟨0, rfl, by omega, by simp, Below.refl _ _⟩
 go_loopw [8, 9] (fun v8 v9 wr => ∃ i : Nat, v9 = .int .i64 i ∧ i ≤ 15 ∧ v8 = .bool (decide (s ∈ knownS.take i)) ∧ Below X.heap.size X wr) (fun _ v _ => 15 - (intOf v).toNat)
 case atStart => exact R0
 case round =>
  clear R0
  obtain ⟨i, rfl, hi, rfl, hb⟩ := hrel
  by_cases hl : i < 15
  · have hlI : (i : Int) < 15 := by omega
    have i0' : (0 : Int) ≤ i := by omega
    have iT : ((i : Int)).toNat = i := by omega
    have hwi : IntKind.i64.wrap ((i : Int) + 1) = ((i + 1 : Nat) : Int) := by rw [IntKind.wrap_i64]; omega; all_goals omega
    have hlk : i < knownS.length := hl
    have hci := (hb.cell (World.block_lt_of_cell? _ _ (HCN.out i hlk))).trans (HCN.out i hlk)
    obtain ⟨x, hx⟩ : ∃ x, x = knownS[i] := ⟨_, rfl⟩
    rw [← hx] at hci
    have htk : knownS.take (i + 1) = knownS.take i ++ [x] := by rw [hx, List.take_succ_eq_append_getElem hlk]
    have hx8 := knownS_b8 x (by rw [hx]; exact List.getElem_mem hlk)
    have HTK := Lib.hid htk
    have HB := Lib.hid hb
    by_cases hin : s ∈ knownS.take i
    · have hin2 : s ∈ knownS.take (i + 1) := by rw [htk]; exact List.mem_append_left _ hin
      rw [decide_eq_true hin]
      have HIN := Lib.hid hin2
      have HLL := Lib.hid hl
      clear hin hin2 htk hx hx8 hb hl
      go_wp2_with fail
      go_roundw
      case rel => exact ⟨i + 1, rfl, HLL.out, by rw [decide_eq_true HIN.out], HB.out⟩
      case measure => show 15 - (i + 1 : Nat) < 15 - i; have := HLL.out; omega
    · rw [decide_eq_false hin]
      have HI := Lib.hid (ris_any (HP.out.below hb) (mkS x) x rfl hx8.1 hx8.2)
      rw [← HS.out] at HI
      have HIN := Lib.hid hin
      have HLL := Lib.hid hl
      clear hin htk hx hx8 hb hl
      obtain ⟨r, hr⟩ : ∃ r, r = decide (s = x) := ⟨_, rfl⟩
      rw [← hr] at HI
      have HRR := Lib.hid hr
      clear hr
      go_wp2_with fail
      refine HI.out.mono ?_
      rintro e w3 ⟨rfl, hb3⟩
      have HB3 := Lib.hid (HB.out.trans (hb3.mono HB.out.size))
      clear hb3 HI
      go_wp2_with fail
      go_roundw
      case rel =>
       refine ⟨i + 1, rfl, HLL.out, ?_, HB3.out⟩
       rw [HRR.out, HTK.out]
       have hin := HIN.out
       congr 1
       rw [Bool.eq_iff_iff, decide_eq_true_eq, decide_eq_true_eq, List.mem_append, List.mem_singleton]
       exact ⟨fun e => .inr e, fun e => by rcases e with e | e; exact absurd e hin; exact e⟩
      case measure => show 15 - (i + 1 : Nat) < 15 - i; have := HLL.out; omega
  · have hlI : ¬ (i : Int) < 15 := by omega
    have hii : i = 15 := by omega
    subst hii
    rw [show knownS.take 15 = knownS from rfl]
    have HB := Lib.hid hb
    clear hb hl hi
    have hb := HB.out
    replace HP := Lib.hid (HP.out.below hb)
    replace G1 := Lib.hid (zd G1.out (zb hb (some gp)))
    replace R4 := Lib.hid (ze hb R4.out R4.out.lt)
    replace R6 := Lib.hid (ze hb R6.out R6.out.lt)
    replace T1 := Lib.hid ((hb.cell (World.block_lt_of_cell? _ _ T1.out)).trans T1.out)
    replace HL5 : Hid (g5 < _) := Nat.lt_of_lt_of_le HL5.out hb.size
    clear hb
    clear HB HCN
    rw [decide_eq_true ((known_mem _).1 (HS.out ▸ HKN.out))]
    obtain ⟨gq, cq0, Lq, kq, qq, -⟩ := HP.out.ex
    have f4 : wr.cell? ⟨gp, 4, none⟩ = some (.int .i64 many) := qq.cell (show 4 < 5 by omega)
    have z4x := qq.frozen 4
    clear qq
    have h8 := HP.out.setM (m := m1) hm501
    have g8 := za G1.out (.inl rfl) (p := ⟨gp, 4, none⟩) (.int .i64 (m1 : Nat))
    have hgs : wr.grownBy (wr.setCell ⟨gp, 4, none⟩ (.int .i64 (m1 : Nat))) (some gp) := za (zf _ _) (.inl rfl) _
    have r48 := zc hgs R4.out HN4.out
    have r68 := zc hgs R6.out HN6.out
    have t18 : World.cell? (wr.setCell ⟨gp, 4, none⟩ (.int .i64 (m1 : Nat))) ⟨g5, 1, none⟩ = some (.string (mkS s)) := (grown_cell hgs (p := ⟨g5, 1, none⟩) (World.block_lt_of_cell? _ _ T1.out) HN5.out.1).trans T1.out
    have n5p := HN5.out.1
    have n56 := HN5.out.2.2
    have n65 : g6 ≠ g5 := fun e => HN5.out.2.2 e.symm
    have n54 := HN5.out.2.1
    clear HP G1 R4 R6 T1 hgs
    rcases htest with htest | ⟨htest, htest2⟩
    all_goals
     have HM := Lib.hid (rfail_any h8 3 (by decide))
     have HHG := Lib.hid g8
     have HHR4 := Lib.hid r48
     have HHR6 := Lib.hid r68
     clear g8 r48 r68
     go_wp2_with fail
     refine HM.out.mono ?_
     rintro e WZ ⟨rfl, h9, hgn⟩
     have g9 := zd HHG.out hgn
     have r49 := zc hgn HHR4.out HN4.out
     have r69 := zc hgn HHR6.out HN6.out
     clear HM HHG HHR4 HHR6
     clear h8 hgn
     have H6 := Lib.hid h9
     have HG := Lib.hid g9
     have HR6 := Lib.hid r69
     have HR4' := Lib.hid r49
     have HTB := Lib.hid (Tr.nil WZ (fun k => g6 < k))
     have HTE := Lib.hid (Tr.nil WZ (fun k => g6 < k))
     have a0 := r69.cell (show 0 < 13 by omega)
     have b0 := r49.cell (show 0 < 13 by omega)
     have z0 := r49.frozen 0
     have a1 := r69.cell (show 1 < 13 by omega)
     have b1 := r49.cell (show 1 < 13 by omega)
     have z1 := r49.frozen 1
     have a2 := r69.cell (show 2 < 13 by omega)
     have b2 := r49.cell (show 2 < 13 by omega)
     have z2 := r49.frozen 2
     have a3 := r69.cell (show 3 < 13 by omega)
     have b3 := r49.cell (show 3 < 13 by omega)
     have z3 := r49.frozen 3
     have a4 := r69.cell (show 4 < 13 by omega)
     have b4 := r49.cell (show 4 < 13 by omega)
     have z4 := r49.frozen 4
     have a5 := r69.cell (show 5 < 13 by omega)
     have b5 := r49.cell (show 5 < 13 by omega)
     have z5 := r49.frozen 5
     have a6 := r69.cell (show 6 < 13 by omega)
     have b6 := r49.cell (show 6 < 13 by omega)
     have z6 := r49.frozen 6
     have a7 := r69.cell (show 7 < 13 by omega)
     have b7 := r49.cell (show 7 < 13 by omega)
     have z7 := r49.frozen 7
     have a8 := r69.cell (show 8 < 13 by omega)
     have b8 := r49.cell (show 8 < 13 by omega)
     have z8 := r49.frozen 8
     have a9 := r69.cell (show 9 < 13 by omega)
     have b9 := r49.cell (show 9 < 13 by omega)
     have z9 := r49.frozen 9
     have a10 := r69.cell (show 10 < 13 by omega)
     have b10 := r49.cell (show 10 < 13 by omega)
     have z10 := r49.frozen 10
     have a11 := r69.cell (show 11 < 13 by omega)
     have b11 := r49.cell (show 11 < 13 by omega)
     have z11 := r49.frozen 11
     have a12 := r69.cell (show 12 < 13 by omega)
     have b12 := r49.cell (show 12 < 13 by omega)
     have z12 := r49.frozen 12
     dsimp only [stF, i0, c0] at a0 b0 a1 b1 a2 b2 a3 b3 a4 b4 a5 b5 a6 b6 a7 b7 a8 b8 a9 b9 a10 b10 a11 b11 a12 b12
     clear h9 g9 r69 r49
     go_wp2_with fail
     (try simp only [Exit.inBlock, Exit.then])
     have hx0 := (za (za (za (za (za (za (za (za (za (za (za (za (za (zf WZ (some g4)) (.inl rfl) (p := ⟨g4, 0, none⟩) (.int .u8 (1 : Nat))) (.inl rfl) (p := ⟨g4, 1, none⟩) (.int .u8 (0 : Nat))) (.inl rfl) (p := ⟨g4, 2, none⟩) (.int .i64 0)) (.inl rfl) (p := ⟨g4, 3, none⟩) (.int .i64 0)) (.inl rfl) (p := ⟨g4, 4, none⟩) (.int .i64 0)) (.inl rfl) (p := ⟨g4, 5, none⟩) (.bool false)) (.inl rfl) (p := ⟨g4, 6, none⟩) (.int .u8 (0 : Nat))) (.inl rfl) (p := ⟨g4, 7, none⟩) (.int .i64 0)) (.inl rfl) (p := ⟨g4, 8, none⟩) (.int .i64 0)) (.inl rfl) (p := ⟨g4, 9, none⟩) (.int .i64 0)) (.inl rfl) (p := ⟨g4, 10, none⟩) (.slice none 0 0)) (.inl rfl) (p := ⟨g4, 11, none⟩) (.slice none 0 0)) (.inl rfl) (p := ⟨g4, 12, none⟩) (.int .i64 (tk.ln : Nat)))
     have hx1 := st_all 1 ⟨0, 0, 0, 0⟩ ⟨false, ⟨0, 0, 0, 0⟩⟩ (.slice none 0 0) (.slice none 0 0) ((tk.ln : Nat)) HR4'.out
     have hx2 := H6.out.kept (row := some g4) hx0 (fun k e => by injection e with e; subst e; exact HG4B.out.1)
     have hx3 := (za (za (za (za (za (za (za (za (za (za (za (za (za HG.out (.inr HG4W.out.1) (p := ⟨g4, 0, none⟩) (.int .u8 (1 : Nat))) (.inr HG4W.out.1) (p := ⟨g4, 1, none⟩) (.int .u8 (0 : Nat))) (.inr HG4W.out.1) (p := ⟨g4, 2, none⟩) (.int .i64 0)) (.inr HG4W.out.1) (p := ⟨g4, 3, none⟩) (.int .i64 0)) (.inr HG4W.out.1) (p := ⟨g4, 4, none⟩) (.int .i64 0)) (.inr HG4W.out.1) (p := ⟨g4, 5, none⟩) (.bool false)) (.inr HG4W.out.1) (p := ⟨g4, 6, none⟩) (.int .u8 (0 : Nat))) (.inr HG4W.out.1) (p := ⟨g4, 7, none⟩) (.int .i64 0)) (.inr HG4W.out.1) (p := ⟨g4, 8, none⟩) (.int .i64 0)) (.inr HG4W.out.1) (p := ⟨g4, 9, none⟩) (.int .i64 0)) (.inr HG4W.out.1) (p := ⟨g4, 10, none⟩) (.slice none 0 0)) (.inr HG4W.out.1) (p := ⟨g4, 11, none⟩) (.slice none 0 0)) (.inr HG4W.out.1) (p := ⟨g4, 12, none⟩) (.int .i64 (tk.ln : Nat)))
     have hx4 := HTB.out.grown hx0 (fun k hk e => by injection e with e; have := HE3.out; have hk' : g6 < k := hk; omega)
     have hx5 := HTE.out.grown hx0 (fun k hk e => by injection e with e; have := HE3.out; have hk' : g6 < k := hk; omega)
     have hx4 := hx4.mono (S' := fun k => w.heap.size ≤ k) (fun k hk _ => by have := HG4.out; have := HE3.out; have hk' : g6 < k := hk; omega)
     have hx5 := hx5.mono (S' := fun k => w.heap.size ≤ k) (fun k hk _ => by have := HG4.out; have := HE3.out; have hk' : g6 < k := hk; omega)
     clear hx0
     dsimp only at hx1 hx2 hx3 hx4 hx5 ⊢
     generalize (((((((((((((WZ.setCell ⟨g4, 0, none⟩ (.int .u8 (1 : Nat))).setCell ⟨g4, 1, none⟩ (.int .u8 (0 : Nat))).setCell ⟨g4, 2, none⟩ (.int .i64 0)).setCell ⟨g4, 3, none⟩ (.int .i64 0)).setCell ⟨g4, 4, none⟩ (.int .i64 0)).setCell ⟨g4, 5, none⟩ (.bool false)).setCell ⟨g4, 6, none⟩ (.int .u8 (0 : Nat))).setCell ⟨g4, 7, none⟩ (.int .i64 0)).setCell ⟨g4, 8, none⟩ (.int .i64 0)).setCell ⟨g4, 9, none⟩ (.int .i64 0)).setCell ⟨g4, 10, none⟩ (.slice none 0 0)).setCell ⟨g4, 11, none⟩ (.slice none 0 0)).setCell ⟨g4, 12, none⟩ (.int .i64 (tk.ln : Nat))) = W99 at hx1 hx2 hx3 hx4 hx5 ⊢
     refine bodyPost_ret (st_results rfl _ _ g4 rfl hx1) rfl ?_
     exact ⟨⟨1, ⟨0, 0, 0, 0⟩, ⟨false, ⟨0, 0, 0, 0⟩⟩, .nil, .nil, (tk.ln : Nat)⟩, .slice none 0 0, .slice none 0 0, l, _, m1, rfl, hx4, hx5, hx2, (fun e => by cases e), .err (st_long HKN.out HL.out), hx3⟩
set_option maxRecDepth 100000 in
set_option maxHeartbeats 40000000 in
theorem rstmt_longs (dp : Nat) (hd21 : dp ≤ 21) (deep : Bool) (hq : deep = decide (20 < dp)) (blk : Blk) (h : RS B w gp l none many) (hm : many ≤ 500) (hk : Known (hd l).s) (hlong : 500 < many + 1 ∨ deep = true) (hss : (hd l).s = [42]) :
  Calls Try.prog 77 #[.pointer (some ⟨gp, 0, none⟩), .int .i64 dp] w (RStPost (stmt deep blk) B gp w l many) := by
 have HKN := Lib.hid hk
 have HL := Lib.hid hlong
 have hkk : (hd l).k = 3 := signk h.tl.hd_ok (by rw [hss]; decide) (by rw [hss]; decide)
 have HSS := Lib.hid hss
 clear hss
 have HKK := Lib.hid hkk
 obtain ⟨m1, hm1⟩ : ∃ m1, m1 = many + 1 := ⟨_, rfl⟩
 have hw1 : IntKind.i64.wrap ((many : Int) + 1) = (m1 : Int) := by rw [IntKind.wrap_i64]; omega; all_goals omega
 have hm501 : m1 ≤ 501 := by omega
 have htest : (500 : Int) < m1 ∨ (¬ (500 : Int) < m1 ∧ (20 : Int) < dp) := by
  by_cases h5 : 500 < many + 1
  · left; omega
  · right
    rcases hlong with h | h
    · omega
    · rw [h] at hq; have := of_decide_eq_true hq.symm; omega
 have HTEST := Lib.hid htest
 clear hk hlong hq hm hd21 hm1 hkk htest
 have hb1 : Below w.heap.size w (w.alloc zZ1) := (Below.refl _ _).alloc (Nat.le_refl _) _
 have h1 := h.below hb1
 have hr4 := st_row (k := 0) (i := i0) (c := c0) (vb := .slice none 0 0) (ve := .slice none 0 0) (ln := 0) (heap_alloc_new w zZ1)
 obtain ⟨tk, htk⟩ : ∃ tk, tk = hd l := ⟨_, rfl⟩
 have hN1 := rnow_any h1
 rw [← htk] at hN1
 have HN1 := Lib.hid hN1
 have HW := Lib.hid (And.intro h.bw h.bp)
 have HOK : Hid (TokOk tk) := by rw [htk]; exact h.tl.hd_ok
 have H1 := Lib.hid h1
 have HB1 := Lib.hid hb1
 have HR4 := Lib.hid hr4
 have HT := Lib.hid htk
 have hf3 := tok_f3
 have e1 : (w.alloc zZ1).heap.size = w.heap.size + 1 := World.size_alloc _ _
 have HE1 := Lib.hid e1
 clear h htk h1 hb1 hr4 hN1 e1
 go_enter Try.func77, Try.ntmps77
 go_wp2_with fail
 have hgg := HE1.out
 have hp := H1.out
 have r4 := HR4.out
 have hbw := HB1.out
 have HN1' := HN1.out
 clear H1 HR4 HB1 HN1 HE1
 generalize w.alloc zZ1 = W1 at *
 obtain ⟨g4, hg4⟩ : ∃ g4, g4 = w.heap.size := ⟨_, rfl⟩
 rw [← hg4] at r4 hgg ⊢
 have HG4 := Lib.hid hg4
 have HH := Lib.hid (And.intro hp (And.intro r4 (And.intro hbw hgg)))
 clear hp r4 hbw hgg hg4
 refine HN1'.mono ?_
 rintro e Wa ⟨rfl, hba⟩
 clear HN1'
 have hba2 : Below Wa.heap.size Wa (Wa.alloc (zZ3 tk)) := (Below.refl _ _).alloc (Nat.le_refl _) _
 have h2 := (HH.out.1.below hba).below hba2
 have hN2 := rnow_any h2
 rw [← HT.out] at hN2
 have HN2x := Lib.hid hN2
 have HP2 := Lib.hid h2
 have R42 := Lib.hid (ze hba2 (ze hba HH.out.2.1 HH.out.2.1.lt) (ze hba HH.out.2.1 HH.out.2.1.lt).lt)
 have R62 := Lib.hid (st_row (k := 1) (i := i0) (c := c0) (vb := .slice none 0 0) (ve := .slice none 0 0) (ln := tk.ln) (heap_alloc_new Wa (zZ3 tk)))
 have HGA := Lib.hid (zd (zb HH.out.2.2.1 (some gp)) (zd (zb hba (some gp)) (zb hba2 (some gp))))
 have HE3 : Hid (g4 < Wa.heap.size ∧ True ∧ True) := ⟨by have := HH.out.2.2.2; have := hba.size; omega, trivial, trivial⟩
 clear h2 hN2 hba hba2 HH
 go_wp2_with fail
 generalize Wa.alloc (zZ3 tk) = Wc at *
 obtain ⟨g6, hg6⟩ : ∃ g6, g6 = Wa.heap.size := ⟨_, rfl⟩
 rw [← hg6] at R62 HE3 ⊢
 clear hg6 hf3 Wa
 refine HN2x.out.mono ?_
 rintro e Wb ⟨rfl, hb⟩
 have hbt : Below Wb.heap.size Wb (Wb.alloc (.cells #[.int .u8 tk.k, .string (mkS tk.s), .int .i64 tk.n, .int .i64 tk.ln] 60)) := (Below.refl _ _).alloc (Nat.le_refl _) _
 have HP := Lib.hid ((HP2.out.below hb).below hbt)
 have R4 := Lib.hid (ze hbt (ze hb R42.out R42.out.lt) (ze hb R42.out R42.out.lt).lt)
 have R6 := Lib.hid (ze hbt (ze hb R62.out R62.out.lt) (ze hb R62.out R62.out.lt).lt)
 have G1 := Lib.hid (zd HGA.out (zd (zb hb (some gp)) (zb hbt (some gp))))
 obtain ⟨d0, d1, d2, d3⟩ := al_four Wb tk
 have HD1 := Lib.hid d1
 have HL5x : Hid (Wb.heap.size < (Wb.alloc (.cells #[.int .u8 tk.k, .string (mkS tk.s), .int .i64 tk.n, .int .i64 tk.ln] 60)).heap.size) := by unfold Hid; rw [World.size_alloc]; omega
 have HN46 : Hid (g4 ≠ g6) := by have := HE3.out; unfold Hid; omega
 have HN64 : Hid (g6 ≠ g4) := by have := HE3.out; unfold Hid; omega
 have HN4 : Hid (g4 ≠ gp) := by have := HW.out; have := HG4.out; unfold Hid; omega
 have HN6 : Hid (g6 ≠ gp) := by have := HW.out; have := HG4.out; have := HE3.out; unfold Hid; omega
 have HG4B : Hid (B ≤ g4 ∧ B ≤ g6) := by have := HW.out; have := HG4.out; have := HE3.out; unfold Hid; omega
 have HG4W : Hid (w.heap.size ≤ g4 ∧ w.heap.size ≤ g6) := by have := HG4.out; have := HE3.out; unfold Hid; omega
 have HN5 : Hid (Wb.heap.size ≠ gp ∧ Wb.heap.size ≠ g4 ∧ Wb.heap.size ≠ g6) := by
  have h1 := hb.size; have h2 := R62.out.lt; have := HW.out; have := HG4.out; have := HE3.out; unfold Hid; omega
 obtain ⟨s, hs⟩ : ∃ s, s = tk.s := ⟨_, rfl⟩
 have HS8 : Hid (∀ x ∈ s, x < 256) := by rw [hs]; exact HOK.out.1
 have HS : Hid (s = (hd l).s) := by rw [← HT.out]; exact hs
 clear HN2x HP2 R42 R62 HGA hb hbt d2 d3
 have KK : Hid (tk.k = 3) := by unfold Hid; rw [HT.out]; exact HKK.out
 have k1I : ((tk.k : Int) != 1) = true := by rw [show tk.k = 3 from KK.out]; rfl
 go_wp2_with fail
 try rw [show Wb.heap.size + 1 = (Wb.alloc (.cells #[.int .u8 tk.k, .string (mkS tk.s), .int .i64 tk.n, .int .i64 tk.ln] 60)).heap.size from (World.size_alloc _ _).symm]
 obtain ⟨g5, hg5⟩ : ∃ g5, g5 = Wb.heap.size := ⟨_, rfl⟩
 rw [← hs] at HD1 ⊢
 have T1 : Hid ((Wb.alloc (.cells #[.int .u8 tk.k, .string (mkS s), .int .i64 tk.n, .int .i64 tk.ln] 60)).cell? ⟨g5, 1, none⟩ = some (.string (mkS s))) := by rw [hg5]; exact HD1.out
 have HL5 := HL5x
 rw [← hs] at HP R4 R6 G1 HL5
 rw [← hg5] at HL5 HN5 ⊢
 generalize Wb.alloc (.cells #[.int .u8 tk.k, .string (mkS s), .int .i64 tk.n, .int .i64 tk.ln] 60) = Wd at *
 clear hg5 HD1 HL5x d0 d1 Wb hs
 clear k1I
 have HI0 := ris_any HP.out ⟨#[126]⟩ [126] rfl (by decide) (by decide)
 rw [decide_eq_false (by rw [HSS.out]; decide)] at HI0
 have HI := Lib.hid HI0
 clear HI0
 go_wp2_with fail
 refine HI.out.mono ?_
 rintro e We ⟨rfl, hb⟩
 clear HI
 replace HP := Lib.hid (HP.out.below hb)
 replace G1 := Lib.hid (zd G1.out (zb hb (some gp)))
 replace R4 := Lib.hid (ze hb R4.out R4.out.lt)
 replace R6 := Lib.hid (ze hb R6.out R6.out.lt)
 replace T1 := Lib.hid ((hb.cell (World.block_lt_of_cell? _ _ T1.out)).trans T1.out)
 replace HL5 : Hid (g5 < _) := Nat.lt_of_lt_of_le HL5.out hb.size
 clear hb
 have HI0 := ris_any HP.out ⟨#[42]⟩ [42] rfl (by decide) (by decide)
 rw [decide_eq_true HSS.out] at HI0
 have HI := Lib.hid HI0
 clear HI0
 go_wp2_with fail
 refine HI.out.mono ?_
 rintro e Wf ⟨rfl, hb⟩
 clear HI
 replace HP := Lib.hid (HP.out.below hb)
 replace G1 := Lib.hid (zd G1.out (zb hb (some gp)))
 replace R4 := Lib.hid (ze hb R4.out R4.out.lt)
 replace R6 := Lib.hid (ze hb R6.out R6.out.lt)
 replace T1 := Lib.hid ((hb.cell (World.block_lt_of_cell? _ _ T1.out)).trans T1.out)
 replace HL5 : Hid (g5 < _) := Nat.lt_of_lt_of_le HL5.out hb.size
 clear hb
 go_wp2_with fail
 have hcn : ∀ i (hi : i < knownS.length), (Wf.alloc zZ5).cell? ⟨(World.heap Wf).size, i, none⟩ = some (.string (mkS knownS[i])) := fun i hi => by
  rw [cell_of_row _ _ _ _ _ _ (heap_alloc_new _ _)]
  match i, hi with
  | 0, _ => rfl
  | 1, _ => rfl
  | 2, _ => rfl
  | 3, _ => rfl
  | 4, _ => rfl
  | 5, _ => rfl
  | 6, _ => rfl
  | 7, _ => rfl
  | 8, _ => rfl
  | 9, _ => rfl
  | 10, _ => rfl
  | 11, _ => rfl
  | 12, _ => rfl
  | 13, _ => rfl
  | 14, _ => rfl
 have HCN := Lib.hid hcn
 have hb : Below (World.heap Wf).size Wf (Wf.alloc zZ5) := (Below.refl _ _).alloc (Nat.le_refl _) _
 replace HP := Lib.hid (HP.out.below hb)
 replace G1 := Lib.hid (zd G1.out (zb hb (some gp)))
 replace R4 := Lib.hid (ze hb R4.out R4.out.lt)
 replace R6 := Lib.hid (ze hb R6.out R6.out.lt)
 replace T1 := Lib.hid ((hb.cell (World.block_lt_of_cell? _ _ T1.out)).trans T1.out)
 replace HL5 : Hid (g5 < _) := Nat.lt_of_lt_of_le HL5.out hb.size
 clear hb
 clear hcn
 generalize World.alloc Wf zZ5 = X at *
 generalize (World.heap Wf).size = g7 at *
 have htest := HTEST.out
 have R0 : ∃ i : Nat, (Value.int .i64 0) = .int .i64 i ∧ i ≤ 15 ∧ (Value.bool false) = .bool (decide (s ∈ knownS.take i)) ∧ Below X.heap.size X X := ⟨0, rfl, by omega, by simp, Below.refl _ _⟩
 go_loopw [8, 9] (fun v8 v9 wr => ∃ i : Nat, v9 = .int .i64 i ∧ i ≤ 15 ∧ v8 = .bool (decide (s ∈ knownS.take i)) ∧ Below X.heap.size X wr) (fun _ v _ => 15 - (intOf v).toNat)
 case atStart => exact R0
 case round =>
  clear R0
  obtain ⟨i, rfl, hi, rfl, hb⟩ := hrel
  by_cases hl : i < 15
  · have hlI : (i : Int) < 15 := by omega
    have i0' : (0 : Int) ≤ i := by omega
    have iT : ((i : Int)).toNat = i := by omega
    have hwi : IntKind.i64.wrap ((i : Int) + 1) = ((i + 1 : Nat) : Int) := by rw [IntKind.wrap_i64]; omega; all_goals omega
    have hlk : i < knownS.length := hl
    have hci := (hb.cell (World.block_lt_of_cell? _ _ (HCN.out i hlk))).trans (HCN.out i hlk)
    obtain ⟨x, hx⟩ : ∃ x, x = knownS[i] := ⟨_, rfl⟩
    rw [← hx] at hci
    have htk : knownS.take (i + 1) = knownS.take i ++ [x] := by rw [hx, List.take_succ_eq_append_getElem hlk]
    have hx8 := knownS_b8 x (by rw [hx]; exact List.getElem_mem hlk)
    have HTK := Lib.hid htk
    have HB := Lib.hid hb
    by_cases hin : s ∈ knownS.take i
    · have hin2 : s ∈ knownS.take (i + 1) := by rw [htk]; exact List.mem_append_left _ hin
      rw [decide_eq_true hin]
      have HIN := Lib.hid hin2
      have HLL := Lib.hid hl
      clear hin hin2 htk hx hx8 hb hl
      go_wp2_with fail
      go_roundw
      case rel => exact ⟨i + 1, rfl, HLL.out, by rw [decide_eq_true HIN.out], HB.out⟩
      case measure => show 15 - (i + 1 : Nat) < 15 - i; have := HLL.out; omega
    · rw [decide_eq_false hin]
      have HI := Lib.hid (ris_any (HP.out.below hb) (mkS x) x rfl hx8.1 hx8.2)
      rw [← HS.out] at HI
      have HIN := Lib.hid hin
      have HLL := Lib.hid hl
      clear hin htk hx hx8 hb hl
      obtain ⟨r, hr⟩ : ∃ r, r = decide (s = x) := ⟨_, rfl⟩
      rw [← hr] at HI
      have HRR := Lib.hid hr
      clear hr
      go_wp2_with fail
      refine HI.out.mono ?_
      rintro e w3 ⟨rfl, hb3⟩
      have HB3 := Lib.hid (HB.out.trans (hb3.mono HB.out.size))
      clear hb3 HI
      go_wp2_with fail
      go_roundw
      case rel =>
       refine ⟨i + 1, rfl, HLL.out, ?_, HB3.out⟩
       rw [HRR.out, HTK.out]
       have hin := HIN.out
       congr 1
       rw [Bool.eq_iff_iff, decide_eq_true_eq, decide_eq_true_eq, List.mem_append, List.mem_singleton]
       exact ⟨fun e => .inr e, fun e => by rcases e with e | e; exact absurd e hin; exact e⟩
      case measure => show 15 - (i + 1 : Nat) < 15 - i; have := HLL.out; omega
  · have hlI : ¬ (i : Int) < 15 := by omega
    have hii : i = 15 := by omega
    subst hii
    rw [show knownS.take 15 = knownS from rfl]
    have HB := Lib.hid hb
    clear hb hl hi
    have hb := HB.out
    replace HP := Lib.hid (HP.out.below hb)
    replace G1 := Lib.hid (zd G1.out (zb hb (some gp)))
    replace R4 := Lib.hid (ze hb R4.out R4.out.lt)
    replace R6 := Lib.hid (ze hb R6.out R6.out.lt)
    replace T1 := Lib.hid ((hb.cell (World.block_lt_of_cell? _ _ T1.out)).trans T1.out)
    replace HL5 : Hid (g5 < _) := Nat.lt_of_lt_of_le HL5.out hb.size
    clear hb
    clear HB HCN
    rw [decide_eq_true ((known_mem _).1 (HS.out ▸ HKN.out))]
    obtain ⟨gq, cq0, Lq, kq, qq, -⟩ := HP.out.ex
    have f4 : wr.cell? ⟨gp, 4, none⟩ = some (.int .i64 many) := qq.cell (show 4 < 5 by omega)
    have z4x := qq.frozen 4
    clear qq
    have h8 := HP.out.setM (m := m1) hm501
    have g8 := za G1.out (.inl rfl) (p := ⟨gp, 4, none⟩) (.int .i64 (m1 : Nat))
    have hgs : wr.grownBy (wr.setCell ⟨gp, 4, none⟩ (.int .i64 (m1 : Nat))) (some gp) := za (zf _ _) (.inl rfl) _
    have r48 := zc hgs R4.out HN4.out
    have r68 := zc hgs R6.out HN6.out
    have t18 : World.cell? (wr.setCell ⟨gp, 4, none⟩ (.int .i64 (m1 : Nat))) ⟨g5, 1, none⟩ = some (.string (mkS s)) := (grown_cell hgs (p := ⟨g5, 1, none⟩) (World.block_lt_of_cell? _ _ T1.out) HN5.out.1).trans T1.out
    have n5p := HN5.out.1
    have n56 := HN5.out.2.2
    have n65 : g6 ≠ g5 := fun e => HN5.out.2.2 e.symm
    have n54 := HN5.out.2.1
    clear HP G1 R4 R6 T1 hgs
    rcases htest with htest | ⟨htest, htest2⟩
    all_goals
     have HM := Lib.hid (rfail_any h8 3 (by decide))
     have HHG := Lib.hid g8
     have HHR4 := Lib.hid r48
     have HHR6 := Lib.hid r68
     clear g8 r48 r68
     go_wp2_with fail
     refine HM.out.mono ?_
     rintro e WZ ⟨rfl, h9, hgn⟩
     have g9 := zd HHG.out hgn
     have r49 := zc hgn HHR4.out HN4.out
     have r69 := zc hgn HHR6.out HN6.out
     clear HM HHG HHR4 HHR6
     clear h8 hgn
     have H6 := Lib.hid h9
     have HG := Lib.hid g9
     have HR6 := Lib.hid r69
     have HR4' := Lib.hid r49
     have HTB := Lib.hid (Tr.nil WZ (fun k => g6 < k))
     have HTE := Lib.hid (Tr.nil WZ (fun k => g6 < k))
     have a0 := r69.cell (show 0 < 13 by omega)
     have b0 := r49.cell (show 0 < 13 by omega)
     have z0 := r49.frozen 0
     have a1 := r69.cell (show 1 < 13 by omega)
     have b1 := r49.cell (show 1 < 13 by omega)
     have z1 := r49.frozen 1
     have a2 := r69.cell (show 2 < 13 by omega)
     have b2 := r49.cell (show 2 < 13 by omega)
     have z2 := r49.frozen 2
     have a3 := r69.cell (show 3 < 13 by omega)
     have b3 := r49.cell (show 3 < 13 by omega)
     have z3 := r49.frozen 3
     have a4 := r69.cell (show 4 < 13 by omega)
     have b4 := r49.cell (show 4 < 13 by omega)
     have z4 := r49.frozen 4
     have a5 := r69.cell (show 5 < 13 by omega)
     have b5 := r49.cell (show 5 < 13 by omega)
     have z5 := r49.frozen 5
     have a6 := r69.cell (show 6 < 13 by omega)
     have b6 := r49.cell (show 6 < 13 by omega)
     have z6 := r49.frozen 6
     have a7 := r69.cell (show 7 < 13 by omega)
     have b7 := r49.cell (show 7 < 13 by omega)
     have z7 := r49.frozen 7
     have a8 := r69.cell (show 8 < 13 by omega)
     have b8 := r49.cell (show 8 < 13 by omega)
     have z8 := r49.frozen 8
     have a9 := r69.cell (show 9 < 13 by omega)
     have b9 := r49.cell (show 9 < 13 by omega)
     have z9 := r49.frozen 9
     have a10 := r69.cell (show 10 < 13 by omega)
     have b10 := r49.cell (show 10 < 13 by omega)
     have z10 := r49.frozen 10
     have a11 := r69.cell (show 11 < 13 by omega)
     have b11 := r49.cell (show 11 < 13 by omega)
     have z11 := r49.frozen 11
     have a12 := r69.cell (show 12 < 13 by omega)
     have b12 := r49.cell (show 12 < 13 by omega)
     have z12 := r49.frozen 12
     dsimp only [stF, i0, c0] at a0 b0 a1 b1 a2 b2 a3 b3 a4 b4 a5 b5 a6 b6 a7 b7 a8 b8 a9 b9 a10 b10 a11 b11 a12 b12
     clear h9 g9 r69 r49
     go_wp2_with fail
     (try simp only [Exit.inBlock, Exit.then])
     have hx0 := (za (za (za (za (za (za (za (za (za (za (za (za (za (zf WZ (some g4)) (.inl rfl) (p := ⟨g4, 0, none⟩) (.int .u8 (1 : Nat))) (.inl rfl) (p := ⟨g4, 1, none⟩) (.int .u8 (0 : Nat))) (.inl rfl) (p := ⟨g4, 2, none⟩) (.int .i64 0)) (.inl rfl) (p := ⟨g4, 3, none⟩) (.int .i64 0)) (.inl rfl) (p := ⟨g4, 4, none⟩) (.int .i64 0)) (.inl rfl) (p := ⟨g4, 5, none⟩) (.bool false)) (.inl rfl) (p := ⟨g4, 6, none⟩) (.int .u8 (0 : Nat))) (.inl rfl) (p := ⟨g4, 7, none⟩) (.int .i64 0)) (.inl rfl) (p := ⟨g4, 8, none⟩) (.int .i64 0)) (.inl rfl) (p := ⟨g4, 9, none⟩) (.int .i64 0)) (.inl rfl) (p := ⟨g4, 10, none⟩) (.slice none 0 0)) (.inl rfl) (p := ⟨g4, 11, none⟩) (.slice none 0 0)) (.inl rfl) (p := ⟨g4, 12, none⟩) (.int .i64 (tk.ln : Nat)))
     have hx1 := st_all 1 ⟨0, 0, 0, 0⟩ ⟨false, ⟨0, 0, 0, 0⟩⟩ (.slice none 0 0) (.slice none 0 0) ((tk.ln : Nat)) HR4'.out
     have hx2 := H6.out.kept (row := some g4) hx0 (fun k e => by injection e with e; subst e; exact HG4B.out.1)
     have hx3 := (za (za (za (za (za (za (za (za (za (za (za (za (za HG.out (.inr HG4W.out.1) (p := ⟨g4, 0, none⟩) (.int .u8 (1 : Nat))) (.inr HG4W.out.1) (p := ⟨g4, 1, none⟩) (.int .u8 (0 : Nat))) (.inr HG4W.out.1) (p := ⟨g4, 2, none⟩) (.int .i64 0)) (.inr HG4W.out.1) (p := ⟨g4, 3, none⟩) (.int .i64 0)) (.inr HG4W.out.1) (p := ⟨g4, 4, none⟩) (.int .i64 0)) (.inr HG4W.out.1) (p := ⟨g4, 5, none⟩) (.bool false)) (.inr HG4W.out.1) (p := ⟨g4, 6, none⟩) (.int .u8 (0 : Nat))) (.inr HG4W.out.1) (p := ⟨g4, 7, none⟩) (.int .i64 0)) (.inr HG4W.out.1) (p := ⟨g4, 8, none⟩) (.int .i64 0)) (.inr HG4W.out.1) (p := ⟨g4, 9, none⟩) (.int .i64 0)) (.inr HG4W.out.1) (p := ⟨g4, 10, none⟩) (.slice none 0 0)) (.inr HG4W.out.1) (p := ⟨g4, 11, none⟩) (.slice none 0 0)) (.inr HG4W.out.1) (p := ⟨g4, 12, none⟩) (.int .i64 (tk.ln : Nat)))
     have hx4 := HTB.out.grown hx0 (fun k hk e => by injection e with e; have := HE3.out; have hk' : g6 < k := hk; omega)
     have hx5 := HTE.out.grown hx0 (fun k hk e => by injection e with e; have := HE3.out; have hk' : g6 < k := hk; omega)
     have hx4 := hx4.mono (S' := fun k => w.heap.size ≤ k) (fun k hk _ => by have := HG4.out; have := HE3.out; have hk' : g6 < k := hk; omega)
     have hx5 := hx5.mono (S' := fun k => w.heap.size ≤ k) (fun k hk _ => by have := HG4.out; have := HE3.out; have hk' : g6 < k := hk; omega)
     clear hx0
     dsimp only at hx1 hx2 hx3 hx4 hx5 ⊢
     generalize (((((((((((((WZ.setCell ⟨g4, 0, none⟩ (.int .u8 (1 : Nat))).setCell ⟨g4, 1, none⟩ (.int .u8 (0 : Nat))).setCell ⟨g4, 2, none⟩ (.int .i64 0)).setCell ⟨g4, 3, none⟩ (.int .i64 0)).setCell ⟨g4, 4, none⟩ (.int .i64 0)).setCell ⟨g4, 5, none⟩ (.bool false)).setCell ⟨g4, 6, none⟩ (.int .u8 (0 : Nat))).setCell ⟨g4, 7, none⟩ (.int .i64 0)).setCell ⟨g4, 8, none⟩ (.int .i64 0)).setCell ⟨g4, 9, none⟩ (.int .i64 0)).setCell ⟨g4, 10, none⟩ (.slice none 0 0)).setCell ⟨g4, 11, none⟩ (.slice none 0 0)).setCell ⟨g4, 12, none⟩ (.int .i64 (tk.ln : Nat))) = W99 at hx1 hx2 hx3 hx4 hx5 ⊢
     refine bodyPost_ret (st_results rfl _ _ g4 rfl hx1) rfl ?_
     exact ⟨⟨1, ⟨0, 0, 0, 0⟩, ⟨false, ⟨0, 0, 0, 0⟩⟩, .nil, .nil, (tk.ln : Nat)⟩, .slice none 0 0, .slice none 0 0, l, _, m1, rfl, hx4, hx5, hx2, (fun e => by cases e), .err (st_long HKN.out HL.out), hx3⟩
end
theorem known_split {l : List Tok} (h : TokOk (hd l)) (hk : Known (hd l).s) : (hd l).k = 1 ∨ (hd l).s = [126] ∨ (hd l).s = [42] := by
 have h1 := (known_mem _).1 hk
 by_cases h2 : (hd l).s ∈ signsN
 · right
   have h3 : ∀ x ∈ knownS, x ∈ signsN → x = [126] ∨ x = [42] := by decide
   exact h3 _ h1 h2
 · exact .inl (wordk h (knownS_b8 _ h1).1 h2)
/-- What a statement's parser of the document does, so deep. -/
def RStC (dp : Nat) (st : List Tok → Nat → Res (StS × List Tok × Nat)) : Prop := ∀ (B gp : Nat) (w : World) (l : List Tok) (many : Nat), RS B w gp l none many → many ≤ 500 →
 Calls Try.prog 77 #[.pointer (some ⟨gp, 0, none⟩), .int .i64 dp] w (RStPost st B gp w l many)
theorem rstmt_long (dp : Nat) (hd21 : dp ≤ 21) (deep : Bool) (hq : deep = decide (20 < dp)) (blk : Blk) {w : World} {B gp : Nat} {l : List Tok} {many : Nat} (h : RS B w gp l none many) (hm : many ≤ 500) (hk : Known (hd l).s) (hlong : 500 < many + 1 ∨ deep = true) :
  Calls Try.prog 77 #[.pointer (some ⟨gp, 0, none⟩), .int .i64 dp] w (RStPost (stmt deep blk) B gp w l many) := by
 rcases known_split h.tl.hd_ok hk with h1 | h1 | h1
 · exact rstmt_longw dp hd21 deep hq blk h hm hk hlong h1
 · exact rstmt_longt dp hd21 deep hq blk h hm hk hlong h1
 · exact rstmt_longs dp hd21 deep hq blk h hm hk hlong h1
theorem rstmt_deep : RStC 21 (stmt true (fun _ _ => .error (0, 0))) := by
 intro B gp w l many h hm
 by_cases hk : Known (hd l).s
 · exact rstmt_long 21 (by omega) true rfl _ h hm hk (.inr rfl)
 · exact rstmt_syn 21 true _ h hm hk
theorem rstmt_any (dp : Nat) (hd20 : dp ≤ 20) (blk : Blk) (hblk : RBlkC (dp + 1) blk) : RStC dp (stmt false blk) := by
 intro B gp w l many h hm
 by_cases hk : Known (hd l).s
 · by_cases h5 : 500 < many + 1
   · exact rstmt_long dp (by omega) false (by rw [decide_eq_false (by omega)]) _ h hm hk (.inl h5)
   · have hm5 : many < 500 := by omega
     by_cases q0 : (hd l).s = [104, 97, 108, 116]
     · exact rstmt_halt dp hd20 blk h hm5 q0
     by_cases q1 : (hd l).s = [104, 97, 115, 104]
     · exact rstmt_hash dp hd20 blk h hm5 q1
     by_cases q2 : (hd l).s = [104, 97, 115, 104, 100]
     · exact rstmt_hashd dp hd20 blk h hm5 q2
     by_cases q3 : (hd l).s = [111, 117, 116]
     · exact rstmt_out dp hd20 blk h hm5 q3
     by_cases q4 : (hd l).s = [122, 101, 114, 111]
     · exact rstmt_zero dp hd20 blk h hm5 q4
     by_cases q5 : (hd l).s = [115, 119, 97, 112]
     · exact rstmt_swap dp hd20 blk h hm5 q5
     by_cases q6 : (hd l).s = [126]
     · exact rstmt_not dp hd20 blk h hm5 q6
     by_cases q7 : (hd l).s = [114]
     · exact rstmt_store dp hd20 blk h hm5 q7
     by_cases q8 : (hd l).s = [105, 102]
     · exact rstmt_if dp hd20 blk hblk h hm5 q8
     by_cases q9 : (hd l).s = [100, 111]
     · exact rstmt_do dp hd20 blk hblk h hm5 q9
     have hns : ∀ x ∈ swS, (hd l).s ≠ x := by
      intro x hx
      simp only [swS, List.mem_cons, List.not_mem_nil, or_false] at hx
      rcases hx with rfl | rfl | rfl | rfl | rfl | rfl | rfl | rfl | rfl | rfl <;> assumption
     have h1 := (known_mem _).1 hk
     have h3 : ∀ x ∈ knownS, (∀ y ∈ swS, x ≠ y) → look bareL x = none ∧ look unaL x = none ∧ look firL x = some 1 := by decide
     obtain ⟨e1, e2, e3⟩ := h3 _ h1 hns
     rcases known_split h.tl.hd_ok hk with h1 | h1 | h1
     · exact rstmt_onw dp hd20 blk h hm5 hk hns h1 e1 e2 e3
     · exact absurd h1 q6
     · exact rstmt_ons dp hd20 blk h hm5 hk hns h1 e1 e2 e3
 · exact rstmt_syn dp false _ h hm hk
end Go.Proofs.Ytiadfmhodlbkiaa
