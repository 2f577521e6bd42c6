/-
 THE DOCUMENT'S stmt: if, do. Conditions: a parser; what a block's parser does, one level deeper.
-/
import Derived.Test.YtiadfmhodlbkiaaQ27
namespace Go.Proofs.Ytiadfmhodlbkiaa
open Go.RowKit
set_option linter.unusedSimpArgs false
set_option linter.unusedVariables false
section
variable {w : World} {B gp gi : Nat} {l : List Tok} {b : Option Flt} {many : Nat}
set_option maxRecDepth 100000 in
set_option maxHeartbeats 40000000 in
theorem rstmt_if (dp : Nat) (hd20 : dp ≤ 20) (blk : Blk) (hblk : RBlkC (dp + 1) blk) (h : RS B w gp l none many) (hm : many < 500) (hss : (hd l).s = [105, 102]) :
  Calls Try.prog 77 #[.pointer (some ⟨gp, 0, none⟩), .int .i64 dp] w (RStPost (stmt false blk) B gp w l many) := by
 have HKN : Hid (Known (hd l).s) := by unfold Hid; rw [hss]; exact (known_mem _).2 (by decide)
 have HK4 : Hid ((hd l).k ≠ 4) := (h.tl.hd_s (by rw [hss]; decide)).1
 have hkk : (hd l).k = 1 := wordk h.tl.hd_ok (by rw [hss]; decide) (by rw [hss]; decide)
 have HSS := Lib.hid hss
 clear hss
 obtain ⟨d1, hd1⟩ : ∃ d1, d1 = dp + 1 := ⟨_, rfl⟩
 have hwd : IntKind.i64.wrap ((dp : Int) + 1) = (d1 : Int) := by rw [IntKind.wrap_i64]; omega; all_goals omega
 rw [← hd1] at hblk
 have HBLK := Lib.hid hblk
 clear hblk hd1
 obtain ⟨m1, hm1⟩ : ∃ m1, m1 = many + 1 := ⟨_, rfl⟩
 have hw1 : IntKind.i64.wrap ((many : Int) + 1) = (m1 : Int) := by rw [IntKind.wrap_i64]; omega; all_goals omega
 have hm501 : m1 ≤ 501 := by omega
 have HM1 := Lib.hid hm1
 have HM500 : Hid (m1 ≤ 500) := by unfold Hid; omega
 have htest : ¬ (500 : Int) < m1 := by omega
 have htest2 : ¬ (20 : Int) < dp := by omega
 have HL : Hid (¬ (500 < many + 1 ∨ false = true)) := by unfold Hid; simp; omega
 clear hm hd20 hm1
 have HKK := Lib.hid hkk
 clear hkk
 have hb1 : Below w.heap.size w (w.alloc zZ1) := (Below.refl _ _).alloc (Nat.le_refl _) _
 have h1 := h.below hb1
 have hr4 := st_row (k := 0) (i := i0) (c := c0) (vb := .slice none 0 0) (ve := .slice none 0 0) (ln := 0) (heap_alloc_new w zZ1)
 obtain ⟨tk, htk⟩ : ∃ tk, tk = hd l := ⟨_, rfl⟩
 have hN1 := rnow_any h1
 rw [← htk] at hN1
 have HN1 := Lib.hid hN1
 have HW := Lib.hid (And.intro h.bw h.bp)
 have HOK : Hid (TokOk tk) := by rw [htk]; exact h.tl.hd_ok
 have H1 := Lib.hid h1
 have HB1 := Lib.hid hb1
 have HR4 := Lib.hid hr4
 have HT := Lib.hid htk
 have hf3 := tok_f3
 have e1 : (w.alloc zZ1).heap.size = w.heap.size + 1 := World.size_alloc _ _
 have HE1 := Lib.hid e1
 clear h htk h1 hb1 hr4 hN1 e1
 go_enter Try.func77, Try.ntmps77
 go_wp2_with fail
 have hgg := HE1.out
 have hp := H1.out
 have r4 := HR4.out
 have hbw := HB1.out
 have HN1' := HN1.out
 clear H1 HR4 HB1 HN1 HE1
 generalize w.alloc zZ1 = W1 at *
 obtain ⟨g4, hg4⟩ : ∃ g4, g4 = w.heap.size := ⟨_, rfl⟩
 rw [← hg4] at r4 hgg ⊢
 have HG4 := Lib.hid hg4
 have HH := Lib.hid (And.intro hp (And.intro r4 (And.intro hbw hgg)))
 clear hp r4 hbw hgg hg4
 refine HN1'.mono ?_
 rintro e Wa ⟨rfl, hba⟩
 clear HN1'
 have hba2 : Below Wa.heap.size Wa (Wa.alloc (zZ3 tk)) := (Below.refl _ _).alloc (Nat.le_refl _) _
 have h2 := (HH.out.1.below hba).below hba2
 have hN2 := rnow_any h2
 rw [← HT.out] at hN2
 have HN2x := Lib.hid hN2
 have HP2 := Lib.hid h2
 have R42 := Lib.hid (ze hba2 (ze hba HH.out.2.1 HH.out.2.1.lt) (ze hba HH.out.2.1 HH.out.2.1.lt).lt)
 have R62 := Lib.hid (st_row (k := 1) (i := i0) (c := c0) (vb := .slice none 0 0) (ve := .slice none 0 0) (ln := tk.ln) (heap_alloc_new Wa (zZ3 tk)))
 have HGA := Lib.hid (zd (zb HH.out.2.2.1 (some gp)) (zd (zb hba (some gp)) (zb hba2 (some gp))))
 have HE3 : Hid (g4 < Wa.heap.size ∧ True ∧ True) := ⟨by have := HH.out.2.2.2; have := hba.size; omega, trivial, trivial⟩
 clear h2 hN2 hba hba2 HH
 go_wp2_with fail
 generalize Wa.alloc (zZ3 tk) = Wc at *
 obtain ⟨g6, hg6⟩ : ∃ g6, g6 = Wa.heap.size := ⟨_, rfl⟩
 rw [← hg6] at R62 HE3 ⊢
 clear hg6 hf3 Wa
 refine HN2x.out.mono ?_
 rintro e Wb ⟨rfl, hb⟩
 have hbt : Below Wb.heap.size Wb (Wb.alloc (.cells #[.int .u8 tk.k, .string (mkS tk.s), .int .i64 tk.n, .int .i64 tk.ln] 60)) := (Below.refl _ _).alloc (Nat.le_refl _) _
 have HP := Lib.hid ((HP2.out.below hb).below hbt)
 have R4 := Lib.hid (ze hbt (ze hb R42.out R42.out.lt) (ze hb R42.out R42.out.lt).lt)
 have R6 := Lib.hid (ze hbt (ze hb R62.out R62.out.lt) (ze hb R62.out R62.out.lt).lt)
 have G1 := Lib.hid (zd HGA.out (zd (zb hb (some gp)) (zb hbt (some gp))))
 obtain ⟨d0, d1, d2, d3⟩ := al_four Wb tk
 have HD1 := Lib.hid d1
 have HL5x : Hid (Wb.heap.size < (Wb.alloc (.cells #[.int .u8 tk.k, .string (mkS tk.s), .int .i64 tk.n, .int .i64 tk.ln] 60)).heap.size) := by unfold Hid; rw [World.size_alloc]; omega
 have HN46 : Hid (g4 ≠ g6) := by have := HE3.out; unfold Hid; omega
 have HN64 : Hid (g6 ≠ g4) := by have := HE3.out; unfold Hid; omega
 have HN4 : Hid (g4 ≠ gp) := by have := HW.out; have := HG4.out; unfold Hid; omega
 have HN6 : Hid (g6 ≠ gp) := by have := HW.out; have := HG4.out; have := HE3.out; unfold Hid; omega
 have HG4B : Hid (B ≤ g4 ∧ B ≤ g6) := by have := HW.out; have := HG4.out; have := HE3.out; unfold Hid; omega
 have HG4W : Hid (w.heap.size ≤ g4 ∧ w.heap.size ≤ g6) := by have := HG4.out; have := HE3.out; unfold Hid; omega
 have HN5 : Hid (Wb.heap.size ≠ gp ∧ Wb.heap.size ≠ g4 ∧ Wb.heap.size ≠ g6) := by
  have h1 := hb.size; have h2 := R62.out.lt; have := HW.out; have := HG4.out; have := HE3.out; unfold Hid; omega
 obtain ⟨s, hs⟩ : ∃ s, s = tk.s := ⟨_, rfl⟩
 have HS8 : Hid (∀ x ∈ s, x < 256) := by rw [hs]; exact HOK.out.1
 have HS : Hid (s = (hd l).s) := by rw [← HT.out]; exact hs
 clear HN2x HP2 R42 R62 HGA hb hbt d2 d3
 have KK : Hid (tk.k = 1) := by unfold Hid; rw [HT.out]; exact HKK.out
 have k1I : ((tk.k : Int) != 1) = false := by rw [show tk.k = 1 from KK.out]; rfl
 go_wp2_with fail
 try rw [show Wb.heap.size + 1 = (Wb.alloc (.cells #[.int .u8 tk.k, .string (mkS tk.s), .int .i64 tk.n, .int .i64 tk.ln] 60)).heap.size from (World.size_alloc _ _).symm]
 obtain ⟨g5, hg5⟩ : ∃ g5, g5 = Wb.heap.size := ⟨_, rfl⟩
 rw [← hs] at HD1 ⊢
 have T1 : Hid ((Wb.alloc (.cells #[.int .u8 tk.k, .string (mkS s), .int .i64 tk.n, .int .i64 tk.ln] 60)).cell? ⟨g5, 1, none⟩ = some (.string (mkS s))) := by rw [hg5]; exact HD1.out
 have HL5 := HL5x
 rw [← hs] at HP R4 R6 G1 HL5
 rw [← hg5] at HL5 HN5 ⊢
 generalize Wb.alloc (.cells #[.int .u8 tk.k, .string (mkS s), .int .i64 tk.n, .int .i64 tk.ln] 60) = Wd at *
 clear hg5 HD1 HL5x d0 d1 Wb hs
 clear k1I
 have hcn : ∀ i (hi : i < knownS.length), (Wd.alloc zZ5).cell? ⟨(World.heap Wd).size, i, none⟩ = some (.string (mkS knownS[i])) := fun i hi => by
  rw [cell_of_row _ _ _ _ _ _ (heap_alloc_new _ _)]
  match i, hi with
  | 0, _ => rfl
  | 1, _ => rfl
  | 2, _ => rfl
  | 3, _ => rfl
  | 4, _ => rfl
  | 5, _ => rfl
  | 6, _ => rfl
  | 7, _ => rfl
  | 8, _ => rfl
  | 9, _ => rfl
  | 10, _ => rfl
  | 11, _ => rfl
  | 12, _ => rfl
  | 13, _ => rfl
  | 14, _ => rfl
 have HCN := Lib.hid hcn
 have hb : Below (World.heap Wd).size Wd (Wd.alloc zZ5) := (Below.refl _ _).alloc (Nat.le_refl _) _
 replace HP := Lib.hid (HP.out.below hb)
 replace G1 := Lib.hid (zd G1.out (zb hb (some gp)))
 replace R4 := Lib.hid (ze hb R4.out R4.out.lt)
 replace R6 := Lib.hid (ze hb R6.out R6.out.lt)
 replace T1 := Lib.hid ((hb.cell (World.block_lt_of_cell? _ _ T1.out)).trans T1.out)
 replace HL5 : Hid (g5 < _) := Nat.lt_of_lt_of_le HL5.out hb.size
 clear hb
 clear hcn
 generalize World.alloc Wd zZ5 = X at *
 generalize (World.heap Wd).size = g7 at *
 have R0 : ∃ i : Nat, (Value.int .i64 0) = .int .i64 i ∧ i ≤ 15 ∧ (Value.bool false) = .bool (decide (s ∈ knownS.take i)) ∧ Below X.heap.size X X := ⟨0, rfl, by omega, by simp, Below.refl _ _⟩
 go_loopw [8, 9] (fun v8 v9 wr => ∃ i : Nat, v9 = .int .i64 i ∧ i ≤ 15 ∧ v8 = .bool (decide (s ∈ knownS.take i)) ∧ Below X.heap.size X wr) (fun _ v _ => 15 - (intOf v).toNat)
 case atStart => exact R0
 case round =>
  clear R0
  obtain ⟨i, rfl, hi, rfl, hb⟩ := hrel
  by_cases hl : i < 15
  · have hlI : (i : Int) < 15 := by omega
    have i0' : (0 : Int) ≤ i := by omega
    have iT : ((i : Int)).toNat = i := by omega
    have hwi : IntKind.i64.wrap ((i : Int) + 1) = ((i + 1 : Nat) : Int) := by rw [IntKind.wrap_i64]; omega; all_goals omega
    have hlk : i < knownS.length := hl
    have hci := (hb.cell (World.block_lt_of_cell? _ _ (HCN.out i hlk))).trans (HCN.out i hlk)
    obtain ⟨x, hx⟩ : ∃ x, x = knownS[i] := ⟨_, rfl⟩
    rw [← hx] at hci
    have htk : knownS.take (i + 1) = knownS.take i ++ [x] := by rw [hx, List.take_succ_eq_append_getElem hlk]
    have hx8 := knownS_b8 x (by rw [hx]; exact List.getElem_mem hlk)
    have HTK := Lib.hid htk
    have HB := Lib.hid hb
    by_cases hin : s ∈ knownS.take i
    · have hin2 : s ∈ knownS.take (i + 1) := by rw [htk]; exact List.mem_append_left _ hin
      rw [decide_eq_true hin]
      have HIN := Lib.hid hin2
      have HLL := Lib.hid hl
      clear hin hin2 htk hx hx8 hb hl
      go_wp2_with fail
      go_roundw
      case rel => exact ⟨i + 1, rfl, HLL.out, by rw [decide_eq_true HIN.out], HB.out⟩
      case measure => show 15 - (i + 1 : Nat) < 15 - i; have := HLL.out; omega
    · rw [decide_eq_false hin]
      have HI := Lib.hid (ris_any (HP.out.below hb) (mkS x) x rfl hx8.1 hx8.2)
      rw [← HS.out] at HI
      have HIN := Lib.hid hin
      have HLL := Lib.hid hl
      clear hin htk hx hx8 hb hl
      obtain ⟨r, hr⟩ : ∃ r, r = decide (s = x) := ⟨_, rfl⟩
      rw [← hr] at HI
      have HRR := Lib.hid hr
      clear hr
      go_wp2_with fail
      refine HI.out.mono ?_
      rintro e w3 ⟨rfl, hb3⟩
      have HB3 := Lib.hid (HB.out.trans (hb3.mono HB.out.size))
      clear hb3 HI
      go_wp2_with fail
      go_roundw
      case rel =>
       refine ⟨i + 1, rfl, HLL.out, ?_, HB3.out⟩
       rw [HRR.out, HTK.out]
       have hin := HIN.out
       congr 1
       rw [Bool.eq_iff_iff, decide_eq_true_eq, decide_eq_true_eq, List.mem_append, List.mem_singleton]
       exact ⟨fun e => .inr e, fun e => by rcases e with e | e; exact absurd e hin; exact e⟩
      case measure => show 15 - (i + 1 : Nat) < 15 - i; have := HLL.out; omega
  · have hlI : ¬ (i : Int) < 15 := by omega
    have hii : i = 15 := by omega
    subst hii
    rw [show knownS.take 15 = knownS from rfl]
    have HB := Lib.hid hb
    clear hb hl hi
    have hb := HB.out
    replace HP := Lib.hid (HP.out.below hb)
    replace G1 := Lib.hid (zd G1.out (zb hb (some gp)))
    replace R4 := Lib.hid (ze hb R4.out R4.out.lt)
    replace R6 := Lib.hid (ze hb R6.out R6.out.lt)
    replace T1 := Lib.hid ((hb.cell (World.block_lt_of_cell? _ _ T1.out)).trans T1.out)
    replace HL5 : Hid (g5 < _) := Nat.lt_of_lt_of_le HL5.out hb.size
    clear hb
    clear HB HCN
    rw [decide_eq_true ((known_mem _).1 (HS.out ▸ HKN.out))]
    obtain ⟨gq, cq0, Lq, kq, qq, -⟩ := HP.out.ex
    have f4 : wr.cell? ⟨gp, 4, none⟩ = some (.int .i64 many) := qq.cell (show 4 < 5 by omega)
    have z4x := qq.frozen 4
    clear qq
    have h8 := HP.out.setM (m := m1) hm501
    have g8 := za G1.out (.inl rfl) (p := ⟨gp, 4, none⟩) (.int .i64 (m1 : Nat))
    have hgs : wr.grownBy (wr.setCell ⟨gp, 4, none⟩ (.int .i64 (m1 : Nat))) (some gp) := za (zf _ _) (.inl rfl) _
    have r48 := zc hgs R4.out HN4.out
    have r68 := zc hgs R6.out HN6.out
    have t18 : World.cell? (wr.setCell ⟨gp, 4, none⟩ (.int .i64 (m1 : Nat))) ⟨g5, 1, none⟩ = some (.string (mkS s)) := (grown_cell hgs (p := ⟨g5, 1, none⟩) (World.block_lt_of_cell? _ _ T1.out) HN5.out.1).trans T1.out
    have n5p := HN5.out.1
    have n56 := HN5.out.2.2
    have n65 : g6 ≠ g5 := fun e => HN5.out.2.2 e.symm
    have n54 := HN5.out.2.1
    clear HP G1 R4 R6 T1 hgs
    have q0 : ((mkS s).toList == ([104, 97, 108, 116] : List UInt8)) = false := nW [104, 97, 108, 116] HS8.out (by decide) (by rw [HS.out, HSS.out]; decide)
    have q1 : ((mkS s).toList == ([104, 97, 115, 104] : List UInt8)) = false := nW [104, 97, 115, 104] HS8.out (by decide) (by rw [HS.out, HSS.out]; decide)
    have q2 : ((mkS s).toList == ([104, 97, 115, 104, 100] : List UInt8)) = false := nW [104, 97, 115, 104, 100] HS8.out (by decide) (by rw [HS.out, HSS.out]; decide)
    have q3 : ((mkS s).toList == ([111, 117, 116] : List UInt8)) = false := nW [111, 117, 116] HS8.out (by decide) (by rw [HS.out, HSS.out]; decide)
    have q4 : ((mkS s).toList == ([122, 101, 114, 111] : List UInt8)) = false := nW [122, 101, 114, 111] HS8.out (by decide) (by rw [HS.out, HSS.out]; decide)
    have q5 : ((mkS s).toList == ([115, 119, 97, 112] : List UInt8)) = false := nW [115, 119, 97, 112] HS8.out (by decide) (by rw [HS.out, HSS.out]; decide)
    have q6 : ((mkS s).toList == ([126] : List UInt8)) = false := nW [126] HS8.out (by decide) (by rw [HS.out, HSS.out]; decide)
    have q7 : ((mkS s).toList == ([114] : List UInt8)) = false := nW [114] HS8.out (by decide) (by rw [HS.out, HSS.out]; decide)
    have q8 : ((mkS s).toList == ([105, 102] : List UInt8)) = true := by rw [show ([105, 102] : List UInt8) = (mkS [105, 102]).toList from (by rw [Lib.toList_data]; rfl), mkS_eq HS8.out (by decide)]; exact decide_eq_true (by rw [HS.out, HSS.out])
    have q9 : ((mkS s).toList == ([100, 111] : List UInt8)) = false := nW [100, 111] HS8.out (by decide) (by rw [HS.out, HSS.out]; decide)
    have hgs := (za (zf (wr.setCell ⟨gp, 4, none⟩ (.int .i64 (m1 : Nat))) (some g6)) (.inl rfl) (p := ⟨g6, 0, none⟩) (.int .u8 2))
    have hA := h8.kept (row := some g6) hgs (fun k e => by injection e with e; subst e; exact HG4B.out.2)
    have gA := (za g8 (.inr HG4W.out.2) (p := ⟨g6, 0, none⟩) (.int .u8 2))
    have r4A := zc hgs r48 HN46.out
    have r6A : World.rowIs ((wr.setCell ⟨gp, 4, none⟩ (.int .i64 (m1 : Nat))).setCell ⟨g6, 0, none⟩ (.int .u8 2)) g6 75 13 (stF 2 i0 c0 (.slice none 0 0) (.slice none 0 0) (tk.ln : Nat)) := st_setK 2 r68
    have y0 := r68.cell (show 0 < 13 by omega)
    have x0 := r68.frozen 0
    dsimp only [stF, i0, c0] at y0
    clear h8 g8 r48 r68 hgs
    have hst := rstep_any hA
    rw [if_neg HK4.out] at hst
    have HM := Lib.hid (hst)
    have HHG := Lib.hid gA
    have HHR4 := Lib.hid r4A
    have HHR6 := Lib.hid r6A
    clear gA r4A r6A
    go_wp2_with fail
    refine HM.out.mono ?_
    rintro e W6 ⟨rfl, hB, hgn⟩
    have gB := zd HHG.out hgn
    have r4B := zc hgn HHR4.out HN4.out
    have r6B := zc hgn HHR6.out HN6.out
    clear HM HHG HHR4 HHR6
    clear hst hgn hA
    clear q0 q1 q2 q3 q4 q5 q6 q7 q8 q9
    clear y0 x0
    have HM := Lib.hid (rcond_any hB)
    have HHG := Lib.hid gB
    have HHR4 := Lib.hid r4B
    have HHR6 := Lib.hid r6B
    clear gB r4B r6B
    go_wp2_with fail
    refine HM.out.mono ?_
    rintro e W9 ⟨⟨nt, ⟨co, cd, cs, cn⟩⟩, l1, b1, rfl, hd, hrc, hgn⟩
    have gd := zd HHG.out hgn
    have r4d := zc hgn HHR4.out HN4.out
    have r6d := zc hgn HHR6.out HN6.out
    clear HM HHG HHR4 HHR6
    dsimp only [conC]
    have HRC := Lib.hid hrc
    clear hrc hgn hB
    have hgs := (za (za (za (za (za (zf W9 (some g6)) (.inl rfl) (p := ⟨g6, 5, none⟩) (.bool nt)) (.inl rfl) (p := ⟨g6, 6, none⟩) (.int .u8 (co : Nat))) (.inl rfl) (p := ⟨g6, 7, none⟩) (.int .i64 cd)) (.inl rfl) (p := ⟨g6, 8, none⟩) (.int .i64 cs)) (.inl rfl) (p := ⟨g6, 9, none⟩) (.int .i64 cn))
    have hE := hd.kept (row := some g6) hgs (fun k e => by injection e with e; subst e; exact HG4B.out.2)
    have gE := (za (za (za (za (za gd (.inr HG4W.out.2) (p := ⟨g6, 5, none⟩) (.bool nt)) (.inr HG4W.out.2) (p := ⟨g6, 6, none⟩) (.int .u8 (co : Nat))) (.inr HG4W.out.2) (p := ⟨g6, 7, none⟩) (.int .i64 cd)) (.inr HG4W.out.2) (p := ⟨g6, 8, none⟩) (.int .i64 cs)) (.inr HG4W.out.2) (p := ⟨g6, 9, none⟩) (.int .i64 cn))
    have r4E := zc hgs r4d HN46.out
    have r6E : World.rowIs (((((W9.setCell ⟨g6, 5, none⟩ (.bool nt)).setCell ⟨g6, 6, none⟩ (.int .u8 (co : Nat))).setCell ⟨g6, 7, none⟩ (.int .i64 cd)).setCell ⟨g6, 8, none⟩ (.int .i64 cs)).setCell ⟨g6, 9, none⟩ (.int .i64 cn)) g6 75 13 (stF 2 i0 ⟨nt, ⟨co, cd, cs, cn⟩⟩ (.slice none 0 0) (.slice none 0 0) (tk.ln : Nat)) := st_setC ⟨nt, ⟨co, cd, cs, cn⟩⟩ r6d
    have y5 := r6d.cell (show 5 < 13 by omega)
    have x5 := r6d.frozen 5
    have y6 := r6d.cell (show 6 < 13 by omega)
    have x6 := r6d.frozen 6
    have y7 := r6d.cell (show 7 < 13 by omega)
    have x7 := r6d.frozen 7
    have y8 := r6d.cell (show 8 < 13 by omega)
    have x8 := r6d.frozen 8
    have y9 := r6d.cell (show 9 < 13 by omega)
    have x9 := r6d.frozen 9
    dsimp only [stF, i0, c0] at y5 y6 y7 y8 y9
    clear hd gd r4d r6d hgs
    have hlt : g6 < ((((((W9.setCell ⟨g6, 5, none⟩ (.bool nt)).setCell ⟨g6, 6, none⟩ (.int .u8 (co : Nat))).setCell ⟨g6, 7, none⟩ (.int .i64 cd)).setCell ⟨g6, 8, none⟩ (.int .i64 cs)).setCell ⟨g6, 9, none⟩ (.int .i64 cn))).heap.size := r6E.lt
    have HM := Lib.hid (HBLK.out B gp ((((((W9.setCell ⟨g6, 5, none⟩ (.bool nt)).setCell ⟨g6, 6, none⟩ (.int .u8 (co : Nat))).setCell ⟨g6, 7, none⟩ (.int .i64 cd)).setCell ⟨g6, 8, none⟩ (.int .i64 cs)).setCell ⟨g6, 9, none⟩ (.int .i64 cn))) l1 b1 m1 hE (fun _ => HM500.out))
    have HHG := Lib.hid gE
    have HHR4 := Lib.hid r4E
    have HHR6 := Lib.hid r6E
    clear gE r4E r6E
    go_wp2_with fail
    refine HM.out.mono ?_
    rintro e WD ⟨vb, bT, l2, b2, m2, rfl, htr, hB, hm2, hrb, hgn⟩
    have gB := zd HHG.out hgn
    have r4B := zc hgn HHR4.out HN4.out
    have r6B := zc hgn HHR6.out HN6.out
    clear HM HHG HHR4 HHR6
    obtain ⟨Ab, cb, hv⟩ := htr.form
    subst hv
    have HTRB : Hid (Tr WD (fun k => g6 < k) _ bT) := htr.mono (fun k hk _ => Nat.lt_of_lt_of_le hlt hk)
    clear htr hlt hE
    clear y5 x5 y6 x6 y7 x7 y8 x8 y9 x9
    have HRB := Lib.hid hrb
    have HM2 := Lib.hid hm2
    clear hrb hm2 hgn
    have hgs := (za (zf WD (some g6)) (.inl rfl) (p := ⟨g6, 10, none⟩) (.slice Ab bT.len cb))
    have hC := hB.kept (row := some g6) hgs (fun k e => by injection e with e; subst e; exact HG4B.out.2)
    have gC := (za gB (.inr HG4W.out.2) (p := ⟨g6, 10, none⟩) (.slice Ab bT.len cb))
    have r4C := zc hgs r4B HN46.out
    have r6C := st_setB (.slice Ab bT.len cb) r6B
    have y10 := r6B.cell (show 10 < 13 by omega)
    have x10 := r6B.frozen 10
    dsimp only [stF, i0, c0] at y10
    have htc := HTRB.out.grown hgs (fun k hk e => by injection e with e; have hk1 : g6 < k := hk; omega)
    clear hB gB r4B r6B hgs
    have HTC := Lib.hid htc
    clear htc HTRB
    obtain ⟨gq, cq0, Lq, kq, qq, -⟩ := hC.ex
    have f2q : World.cell? (WD.setCell ⟨g6, 10, none⟩ (.slice Ab bT.len cb)) ⟨gp, 2, none⟩ = some (.int .i64 (erO b2 : Nat)) := qq.cell (show 2 < 5 by omega)
    clear qq
    cases b2 with
    | some e0 =>
      have hxb : (((erO (some e0) : Nat) : Int) == 0) = false := by have := hC.er e0 rfl; rw [beq_eq_false_iff_ne]; show ((e0.1 : Nat) : Int) ≠ 0; omega
      have HRE : Hid (false = ((some e0 : Option Flt).isNone && decide ((hd l2).s = [101, 108, 115, 101]))) := rfl
      have H6 := Lib.hid hC
      have HG := Lib.hid gC
      have HR6 := Lib.hid r6C
      have HR4' := Lib.hid r4C
      have HTB := Lib.hid (HTC.out)
      have HTE := Lib.hid (Tr.nil (WD.setCell ⟨g6, 10, none⟩ (.slice Ab bT.len cb)) (fun k => g6 < k))
      have a0 := r6C.cell (show 0 < 13 by omega)
      have b0 := r4C.cell (show 0 < 13 by omega)
      have z0 := r4C.frozen 0
      have a1 := r6C.cell (show 1 < 13 by omega)
      have b1 := r4C.cell (show 1 < 13 by omega)
      have z1 := r4C.frozen 1
      have a2 := r6C.cell (show 2 < 13 by omega)
      have b2 := r4C.cell (show 2 < 13 by omega)
      have z2 := r4C.frozen 2
      have a3 := r6C.cell (show 3 < 13 by omega)
      have b3 := r4C.cell (show 3 < 13 by omega)
      have z3 := r4C.frozen 3
      have a4 := r6C.cell (show 4 < 13 by omega)
      have b4 := r4C.cell (show 4 < 13 by omega)
      have z4 := r4C.frozen 4
      have a5 := r6C.cell (show 5 < 13 by omega)
      have b5 := r4C.cell (show 5 < 13 by omega)
      have z5 := r4C.frozen 5
      have a6 := r6C.cell (show 6 < 13 by omega)
      have b6 := r4C.cell (show 6 < 13 by omega)
      have z6 := r4C.frozen 6
      have a7 := r6C.cell (show 7 < 13 by omega)
      have b7 := r4C.cell (show 7 < 13 by omega)
      have z7 := r4C.frozen 7
      have a8 := r6C.cell (show 8 < 13 by omega)
      have b8 := r4C.cell (show 8 < 13 by omega)
      have z8 := r4C.frozen 8
      have a9 := r6C.cell (show 9 < 13 by omega)
      have b9 := r4C.cell (show 9 < 13 by omega)
      have z9 := r4C.frozen 9
      have a10 := r6C.cell (show 10 < 13 by omega)
      have b10 := r4C.cell (show 10 < 13 by omega)
      have z10 := r4C.frozen 10
      have a11 := r6C.cell (show 11 < 13 by omega)
      have b11 := r4C.cell (show 11 < 13 by omega)
      have z11 := r4C.frozen 11
      have a12 := r6C.cell (show 12 < 13 by omega)
      have b12 := r4C.cell (show 12 < 13 by omega)
      have z12 := r4C.frozen 12
      dsimp only [stF, i0, c0] at a0 b0 a1 b1 a2 b2 a3 b3 a4 b4 a5 b5 a6 b6 a7 b7 a8 b8 a9 b9 a10 b10 a11 b11 a12 b12
      clear hC gC r6C r4C
      go_wp2_with fail
      (try simp only [Exit.inBlock, Exit.then])
      have hx0 := (za (za (za (za (za (za (za (za (za (za (za (za (za (zf (WD.setCell ⟨g6, 10, none⟩ (.slice Ab bT.len cb)) (some g4)) (.inl rfl) (p := ⟨g4, 0, none⟩) (.int .u8 (2 : Nat))) (.inl rfl) (p := ⟨g4, 1, none⟩) (.int .u8 (0 : Nat))) (.inl rfl) (p := ⟨g4, 2, none⟩) (.int .i64 0)) (.inl rfl) (p := ⟨g4, 3, none⟩) (.int .i64 0)) (.inl rfl) (p := ⟨g4, 4, none⟩) (.int .i64 0)) (.inl rfl) (p := ⟨g4, 5, none⟩) (.bool nt)) (.inl rfl) (p := ⟨g4, 6, none⟩) (.int .u8 (co : Nat))) (.inl rfl) (p := ⟨g4, 7, none⟩) (.int .i64 cd)) (.inl rfl) (p := ⟨g4, 8, none⟩) (.int .i64 cs)) (.inl rfl) (p := ⟨g4, 9, none⟩) (.int .i64 cn)) (.inl rfl) (p := ⟨g4, 10, none⟩) (.slice Ab bT.len cb)) (.inl rfl) (p := ⟨g4, 11, none⟩) (.slice none 0 0)) (.inl rfl) (p := ⟨g4, 12, none⟩) (.int .i64 (tk.ln : Nat)))
      have hx1 := st_all 2 ⟨0, 0, 0, 0⟩ ⟨nt, ⟨co, cd, cs, cn⟩⟩ (.slice Ab bT.len cb) (.slice none 0 0) ((tk.ln : Nat)) HR4'.out
      have hx2 := H6.out.kept (row := some g4) hx0 (fun k e => by injection e with e; subst e; exact HG4B.out.1)
      have hx3 := (za (za (za (za (za (za (za (za (za (za (za (za (za HG.out (.inr HG4W.out.1) (p := ⟨g4, 0, none⟩) (.int .u8 (2 : Nat))) (.inr HG4W.out.1) (p := ⟨g4, 1, none⟩) (.int .u8 (0 : Nat))) (.inr HG4W.out.1) (p := ⟨g4, 2, none⟩) (.int .i64 0)) (.inr HG4W.out.1) (p := ⟨g4, 3, none⟩) (.int .i64 0)) (.inr HG4W.out.1) (p := ⟨g4, 4, none⟩) (.int .i64 0)) (.inr HG4W.out.1) (p := ⟨g4, 5, none⟩) (.bool nt)) (.inr HG4W.out.1) (p := ⟨g4, 6, none⟩) (.int .u8 (co : Nat))) (.inr HG4W.out.1) (p := ⟨g4, 7, none⟩) (.int .i64 cd)) (.inr HG4W.out.1) (p := ⟨g4, 8, none⟩) (.int .i64 cs)) (.inr HG4W.out.1) (p := ⟨g4, 9, none⟩) (.int .i64 cn)) (.inr HG4W.out.1) (p := ⟨g4, 10, none⟩) (.slice Ab bT.len cb)) (.inr HG4W.out.1) (p := ⟨g4, 11, none⟩) (.slice none 0 0)) (.inr HG4W.out.1) (p := ⟨g4, 12, none⟩) (.int .i64 (tk.ln : Nat)))
      have hx4 := HTB.out.grown hx0 (fun k hk e => by injection e with e; have := HE3.out; have hk' : g6 < k := hk; omega)
      have hx5 := HTE.out.grown hx0 (fun k hk e => by injection e with e; have := HE3.out; have hk' : g6 < k := hk; omega)
      have hx4 := hx4.mono (S' := fun k => w.heap.size ≤ k) (fun k hk _ => by have := HG4.out; have := HE3.out; have hk' : g6 < k := hk; omega)
      have hx5 := hx5.mono (S' := fun k => w.heap.size ≤ k) (fun k hk _ => by have := HG4.out; have := HE3.out; have hk' : g6 < k := hk; omega)
      clear hx0
      dsimp only at hx1 hx2 hx3 hx4 hx5 ⊢
      generalize ((((((((((((((WD.setCell ⟨g6, 10, none⟩ (.slice Ab bT.len cb)).setCell ⟨g4, 0, none⟩ (.int .u8 (2 : Nat))).setCell ⟨g4, 1, none⟩ (.int .u8 (0 : Nat))).setCell ⟨g4, 2, none⟩ (.int .i64 0)).setCell ⟨g4, 3, none⟩ (.int .i64 0)).setCell ⟨g4, 4, none⟩ (.int .i64 0)).setCell ⟨g4, 5, none⟩ (.bool nt)).setCell ⟨g4, 6, none⟩ (.int .u8 (co : Nat))).setCell ⟨g4, 7, none⟩ (.int .i64 cd)).setCell ⟨g4, 8, none⟩ (.int .i64 cs)).setCell ⟨g4, 9, none⟩ (.int .i64 cn)).setCell ⟨g4, 10, none⟩ (.slice Ab bT.len cb)).setCell ⟨g4, 11, none⟩ (.slice none 0 0)).setCell ⟨g4, 12, none⟩ (.int .i64 (tk.ln : Nat))) = W99 at hx1 hx2 hx3 hx4 hx5 ⊢
      refine bodyPost_ret (st_results rfl _ _ g4 rfl hx1) rfl ?_
      exact ⟨⟨2, ⟨0, 0, 0, 0⟩, ⟨nt, ⟨co, cd, cs, cn⟩⟩, bT, .nil, (tk.ln : Nat)⟩, .slice Ab bT.len cb, .slice none 0 0, l2, _, m2, rfl, hx4, hx5, hx2, HM2.out, by rw [HT.out]; exact if_no (by rw [HM1.out]; exact st_if HL.out (by rw [HSS.out]; rfl) (by rw [HSS.out]; rfl) (by rw [HSS.out]; rfl : look firL (hd l).s = some 1) HSS.out) HRC.out HRB.out HRE.out, hx3⟩
    | none =>
      have HM2n : Hid (m2 ≤ 500) := by have h := HM2.out; unfold Hid; simpa using h
      have f2q' : World.cell? (WD.setCell ⟨g6, 10, none⟩ (.slice Ab bT.len cb)) ⟨gp, 2, none⟩ = some (.int .i64 0) := f2q
      clear f2q
      have HI := Lib.hid (ris_any hC ⟨#[101, 108, 115, 101]⟩ [101, 108, 115, 101] rfl (by decide) (by decide))
      obtain ⟨r, hr⟩ : ∃ r, r = decide ((hd l2).s = [101, 108, 115, 101]) := ⟨_, rfl⟩
      rw [← hr] at HI
      have HRE : Hid (r = ((none : Option Flt).isNone && decide ((hd l2).s = [101, 108, 115, 101]))) := by unfold Hid; rw [hr]; rfl
      have HRQ := Lib.hid hr
      have HPC := Lib.hid hC
      have HGC := Lib.hid gC
      have HR4C := Lib.hid r4C
      have HR6C := Lib.hid r6C
      clear hr hC gC r4C r6C
      go_wp2_with fail
      refine HI.out.mono ?_
      rintro e WE ⟨rfl, hb⟩
      have hD := HPC.out.below hb
      have gD := zd HGC.out (zb hb (some gp))
      have r4D := ze hb HR4C.out HR4C.out.lt
      have r6D := ze hb HR6C.out HR6C.out.lt
      have HTD := Lib.hid (HTC.out.below hb)
      clear HI HPC HGC HR4C HR6C HTC hb f2q' y10 x10
      cases r with
      | false =>
        have H6 := Lib.hid hD
        have HG := Lib.hid gD
        have HR6 := Lib.hid r6D
        have HR4' := Lib.hid r4D
        have HTB := Lib.hid (HTD.out)
        have HTE := Lib.hid (Tr.nil WE (fun k => g6 < k))
        have a0 := r6D.cell (show 0 < 13 by omega)
        have b0 := r4D.cell (show 0 < 13 by omega)
        have z0 := r4D.frozen 0
        have a1 := r6D.cell (show 1 < 13 by omega)
        have b1 := r4D.cell (show 1 < 13 by omega)
        have z1 := r4D.frozen 1
        have a2 := r6D.cell (show 2 < 13 by omega)
        have b2 := r4D.cell (show 2 < 13 by omega)
        have z2 := r4D.frozen 2
        have a3 := r6D.cell (show 3 < 13 by omega)
        have b3 := r4D.cell (show 3 < 13 by omega)
        have z3 := r4D.frozen 3
        have a4 := r6D.cell (show 4 < 13 by omega)
        have b4 := r4D.cell (show 4 < 13 by omega)
        have z4 := r4D.frozen 4
        have a5 := r6D.cell (show 5 < 13 by omega)
        have b5 := r4D.cell (show 5 < 13 by omega)
        have z5 := r4D.frozen 5
        have a6 := r6D.cell (show 6 < 13 by omega)
        have b6 := r4D.cell (show 6 < 13 by omega)
        have z6 := r4D.frozen 6
        have a7 := r6D.cell (show 7 < 13 by omega)
        have b7 := r4D.cell (show 7 < 13 by omega)
        have z7 := r4D.frozen 7
        have a8 := r6D.cell (show 8 < 13 by omega)
        have b8 := r4D.cell (show 8 < 13 by omega)
        have z8 := r4D.frozen 8
        have a9 := r6D.cell (show 9 < 13 by omega)
        have b9 := r4D.cell (show 9 < 13 by omega)
        have z9 := r4D.frozen 9
        have a10 := r6D.cell (show 10 < 13 by omega)
        have b10 := r4D.cell (show 10 < 13 by omega)
        have z10 := r4D.frozen 10
        have a11 := r6D.cell (show 11 < 13 by omega)
        have b11 := r4D.cell (show 11 < 13 by omega)
        have z11 := r4D.frozen 11
        have a12 := r6D.cell (show 12 < 13 by omega)
        have b12 := r4D.cell (show 12 < 13 by omega)
        have z12 := r4D.frozen 12
        dsimp only [stF, i0, c0] at a0 b0 a1 b1 a2 b2 a3 b3 a4 b4 a5 b5 a6 b6 a7 b7 a8 b8 a9 b9 a10 b10 a11 b11 a12 b12
        clear hD gD r6D r4D
        go_wp2_with fail
        (try simp only [Exit.inBlock, Exit.then])
        have hx0 := (za (za (za (za (za (za (za (za (za (za (za (za (za (zf WE (some g4)) (.inl rfl) (p := ⟨g4, 0, none⟩) (.int .u8 (2 : Nat))) (.inl rfl) (p := ⟨g4, 1, none⟩) (.int .u8 (0 : Nat))) (.inl rfl) (p := ⟨g4, 2, none⟩) (.int .i64 0)) (.inl rfl) (p := ⟨g4, 3, none⟩) (.int .i64 0)) (.inl rfl) (p := ⟨g4, 4, none⟩) (.int .i64 0)) (.inl rfl) (p := ⟨g4, 5, none⟩) (.bool nt)) (.inl rfl) (p := ⟨g4, 6, none⟩) (.int .u8 (co : Nat))) (.inl rfl) (p := ⟨g4, 7, none⟩) (.int .i64 cd)) (.inl rfl) (p := ⟨g4, 8, none⟩) (.int .i64 cs)) (.inl rfl) (p := ⟨g4, 9, none⟩) (.int .i64 cn)) (.inl rfl) (p := ⟨g4, 10, none⟩) (.slice Ab bT.len cb)) (.inl rfl) (p := ⟨g4, 11, none⟩) (.slice none 0 0)) (.inl rfl) (p := ⟨g4, 12, none⟩) (.int .i64 (tk.ln : Nat)))
        have hx1 := st_all 2 ⟨0, 0, 0, 0⟩ ⟨nt, ⟨co, cd, cs, cn⟩⟩ (.slice Ab bT.len cb) (.slice none 0 0) ((tk.ln : Nat)) HR4'.out
        have hx2 := H6.out.kept (row := some g4) hx0 (fun k e => by injection e with e; subst e; exact HG4B.out.1)
        have hx3 := (za (za (za (za (za (za (za (za (za (za (za (za (za HG.out (.inr HG4W.out.1) (p := ⟨g4, 0, none⟩) (.int .u8 (2 : Nat))) (.inr HG4W.out.1) (p := ⟨g4, 1, none⟩) (.int .u8 (0 : Nat))) (.inr HG4W.out.1) (p := ⟨g4, 2, none⟩) (.int .i64 0)) (.inr HG4W.out.1) (p := ⟨g4, 3, none⟩) (.int .i64 0)) (.inr HG4W.out.1) (p := ⟨g4, 4, none⟩) (.int .i64 0)) (.inr HG4W.out.1) (p := ⟨g4, 5, none⟩) (.bool nt)) (.inr HG4W.out.1) (p := ⟨g4, 6, none⟩) (.int .u8 (co : Nat))) (.inr HG4W.out.1) (p := ⟨g4, 7, none⟩) (.int .i64 cd)) (.inr HG4W.out.1) (p := ⟨g4, 8, none⟩) (.int .i64 cs)) (.inr HG4W.out.1) (p := ⟨g4, 9, none⟩) (.int .i64 cn)) (.inr HG4W.out.1) (p := ⟨g4, 10, none⟩) (.slice Ab bT.len cb)) (.inr HG4W.out.1) (p := ⟨g4, 11, none⟩) (.slice none 0 0)) (.inr HG4W.out.1) (p := ⟨g4, 12, none⟩) (.int .i64 (tk.ln : Nat)))
        have hx4 := HTB.out.grown hx0 (fun k hk e => by injection e with e; have := HE3.out; have hk' : g6 < k := hk; omega)
        have hx5 := HTE.out.grown hx0 (fun k hk e => by injection e with e; have := HE3.out; have hk' : g6 < k := hk; omega)
        have hx4 := hx4.mono (S' := fun k => w.heap.size ≤ k) (fun k hk _ => by have := HG4.out; have := HE3.out; have hk' : g6 < k := hk; omega)
        have hx5 := hx5.mono (S' := fun k => w.heap.size ≤ k) (fun k hk _ => by have := HG4.out; have := HE3.out; have hk' : g6 < k := hk; omega)
        clear hx0
        dsimp only at hx1 hx2 hx3 hx4 hx5 ⊢
        generalize (((((((((((((WE.setCell ⟨g4, 0, none⟩ (.int .u8 (2 : Nat))).setCell ⟨g4, 1, none⟩ (.int .u8 (0 : Nat))).setCell ⟨g4, 2, none⟩ (.int .i64 0)).setCell ⟨g4, 3, none⟩ (.int .i64 0)).setCell ⟨g4, 4, none⟩ (.int .i64 0)).setCell ⟨g4, 5, none⟩ (.bool nt)).setCell ⟨g4, 6, none⟩ (.int .u8 (co : Nat))).setCell ⟨g4, 7, none⟩ (.int .i64 cd)).setCell ⟨g4, 8, none⟩ (.int .i64 cs)).setCell ⟨g4, 9, none⟩ (.int .i64 cn)).setCell ⟨g4, 10, none⟩ (.slice Ab bT.len cb)).setCell ⟨g4, 11, none⟩ (.slice none 0 0)).setCell ⟨g4, 12, none⟩ (.int .i64 (tk.ln : Nat))) = W99 at hx1 hx2 hx3 hx4 hx5 ⊢
        refine bodyPost_ret (st_results rfl _ _ g4 rfl hx1) rfl ?_
        exact ⟨⟨2, ⟨0, 0, 0, 0⟩, ⟨nt, ⟨co, cd, cs, cn⟩⟩, bT, .nil, (tk.ln : Nat)⟩, .slice Ab bT.len cb, .slice none 0 0, l2, _, m2, rfl, hx4, hx5, hx2, (fun _ => HM2n.out), by rw [HT.out]; exact if_no (by rw [HM1.out]; exact st_if HL.out (by rw [HSS.out]; rfl) (by rw [HSS.out]; rfl) (by rw [HSS.out]; rfl : look firL (hd l).s = some 1) HSS.out) HRC.out HRB.out HRE.out, hx3⟩
      | true =>
        have hk4 : (hd l2).k ≠ 4 := (hD.tl.hd_s (by rw [of_decide_eq_true HRQ.out.symm]; decide)).1
        have hst := rstep_any hD
        rw [if_neg hk4] at hst
        clear hk4
        have HM := Lib.hid (hst)
        have HHG := Lib.hid gD
        have HHR4 := Lib.hid r4D
        have HHR6 := Lib.hid r6D
        clear gD r4D r6D
        go_wp2_with fail
        refine HM.out.mono ?_
        rintro e WF ⟨rfl, hE, hgn⟩
        have gE := zd HHG.out hgn
        have r4E := zc hgn HHR4.out HN4.out
        have r6E := zc hgn HHR6.out HN6.out
        clear HM HHG HHR4 HHR6
        have HTE0 := Lib.hid (HTD.out.grown hgn (fun k hk e => by injection e with e; have hk1 : g6 < k := hk; have := HG4B.out.2; have := HW.out.2; omega))
        clear hst hD hgn HTD
        have hlt : g6 < (WF).heap.size := r6E.lt
        have HM := Lib.hid (HBLK.out B gp (WF) l2.tail none m2 hE (fun _ => HM2n.out))
        have HHG := Lib.hid gE
        have HHR4 := Lib.hid r4E
        have HHR6 := Lib.hid r6E
        clear gE r4E r6E
        go_wp2_with fail
        refine HM.out.mono ?_
        rintro e WG ⟨ve, eT, l3, b3, m3, rfl, htr, hH, hm3, hre, hgn⟩
        have gH := zd HHG.out hgn
        have r4H := zc hgn HHR4.out HN4.out
        have r6H := zc hgn HHR6.out HN6.out
        clear HM HHG HHR4 HHR6
        obtain ⟨Ae, ce, hv⟩ := htr.form
        subst hv
        have HTRH : Hid (Tr WG (fun k => g6 < k) _ eT) := htr.mono (fun k hk _ => Nat.lt_of_lt_of_le hlt hk)
        clear htr hlt hE
        have HTF := Lib.hid (HTE0.out.grown hgn (fun k hk e => by injection e with e; have hk1 : g6 < k := hk; have := HG4B.out.2; have := HW.out.2; omega))
        have HRF := Lib.hid hre
        have HM3 := Lib.hid hm3
        clear hre hm3 hgn HTE0
        have hgs := (za (zf WG (some g6)) (.inl rfl) (p := ⟨g6, 11, none⟩) (.slice Ae eT.len ce))
        have hF := hH.kept (row := some g6) hgs (fun k e => by injection e with e; subst e; exact HG4B.out.2)
        have gF := (za gH (.inr HG4W.out.2) (p := ⟨g6, 11, none⟩) (.slice Ae eT.len ce))
        have r4F := zc hgs r4H HN46.out
        have r6F := st_setE (.slice Ae eT.len ce) r6H
        have y11 := r6H.cell (show 11 < 13 by omega)
        have x11 := r6H.frozen 11
        dsimp only [stF, i0, c0] at y11
        have htb := HTF.out.grown hgs (fun k hk e => by injection e with e; have hk1 : g6 < k := hk; omega)
        have hte := HTRH.out.grown hgs (fun k hk e => by injection e with e; have hk1 : g6 < k := hk; omega)
        clear hH gH r4H r6H hgs
        have HTB9 := Lib.hid htb
        have HTE9 := Lib.hid hte
        clear htb hte HTF HTRH
        have H6 := Lib.hid hF
        have HG := Lib.hid gF
        have HR6 := Lib.hid r6F
        have HR4' := Lib.hid r4F
        have HTB := Lib.hid (HTB9.out)
        have HTE := Lib.hid (HTE9.out)
        have a0 := r6F.cell (show 0 < 13 by omega)
        have b0 := r4F.cell (show 0 < 13 by omega)
        have z0 := r4F.frozen 0
        have a1 := r6F.cell (show 1 < 13 by omega)
        have b1 := r4F.cell (show 1 < 13 by omega)
        have z1 := r4F.frozen 1
        have a2 := r6F.cell (show 2 < 13 by omega)
        have b2 := r4F.cell (show 2 < 13 by omega)
        have z2 := r4F.frozen 2
        have a3 := r6F.cell (show 3 < 13 by omega)
        have b3 := r4F.cell (show 3 < 13 by omega)
        have z3 := r4F.frozen 3
        have a4 := r6F.cell (show 4 < 13 by omega)
        have b4 := r4F.cell (show 4 < 13 by omega)
        have z4 := r4F.frozen 4
        have a5 := r6F.cell (show 5 < 13 by omega)
        have b5 := r4F.cell (show 5 < 13 by omega)
        have z5 := r4F.frozen 5
        have a6 := r6F.cell (show 6 < 13 by omega)
        have b6 := r4F.cell (show 6 < 13 by omega)
        have z6 := r4F.frozen 6
        have a7 := r6F.cell (show 7 < 13 by omega)
        have b7 := r4F.cell (show 7 < 13 by omega)
        have z7 := r4F.frozen 7
        have a8 := r6F.cell (show 8 < 13 by omega)
        have b8 := r4F.cell (show 8 < 13 by omega)
        have z8 := r4F.frozen 8
        have a9 := r6F.cell (show 9 < 13 by omega)
        have b9 := r4F.cell (show 9 < 13 by omega)
        have z9 := r4F.frozen 9
        have a10 := r6F.cell (show 10 < 13 by omega)
        have b10 := r4F.cell (show 10 < 13 by omega)
        have z10 := r4F.frozen 10
        have a11 := r6F.cell (show 11 < 13 by omega)
        have b11 := r4F.cell (show 11 < 13 by omega)
        have z11 := r4F.frozen 11
        have a12 := r6F.cell (show 12 < 13 by omega)
        have b12 := r4F.cell (show 12 < 13 by omega)
        have z12 := r4F.frozen 12
        dsimp only [stF, i0, c0] at a0 b0 a1 b1 a2 b2 a3 b3 a4 b4 a5 b5 a6 b6 a7 b7 a8 b8 a9 b9 a10 b10 a11 b11 a12 b12
        clear hF gF r6F r4F
        go_wp2_with fail
        (try simp only [Exit.inBlock, Exit.then])
        have hx0 := (za (za (za (za (za (za (za (za (za (za (za (za (za (zf (WG.setCell ⟨g6, 11, none⟩ (.slice Ae eT.len ce)) (some g4)) (.inl rfl) (p := ⟨g4, 0, none⟩) (.int .u8 (2 : Nat))) (.inl rfl) (p := ⟨g4, 1, none⟩) (.int .u8 (0 : Nat))) (.inl rfl) (p := ⟨g4, 2, none⟩) (.int .i64 0)) (.inl rfl) (p := ⟨g4, 3, none⟩) (.int .i64 0)) (.inl rfl) (p := ⟨g4, 4, none⟩) (.int .i64 0)) (.inl rfl) (p := ⟨g4, 5, none⟩) (.bool nt)) (.inl rfl) (p := ⟨g4, 6, none⟩) (.int .u8 (co : Nat))) (.inl rfl) (p := ⟨g4, 7, none⟩) (.int .i64 cd)) (.inl rfl) (p := ⟨g4, 8, none⟩) (.int .i64 cs)) (.inl rfl) (p := ⟨g4, 9, none⟩) (.int .i64 cn)) (.inl rfl) (p := ⟨g4, 10, none⟩) (.slice Ab bT.len cb)) (.inl rfl) (p := ⟨g4, 11, none⟩) (.slice Ae eT.len ce)) (.inl rfl) (p := ⟨g4, 12, none⟩) (.int .i64 (tk.ln : Nat)))
        have hx1 := st_all 2 ⟨0, 0, 0, 0⟩ ⟨nt, ⟨co, cd, cs, cn⟩⟩ (.slice Ab bT.len cb) (.slice Ae eT.len ce) ((tk.ln : Nat)) HR4'.out
        have hx2 := H6.out.kept (row := some g4) hx0 (fun k e => by injection e with e; subst e; exact HG4B.out.1)
        have hx3 := (za (za (za (za (za (za (za (za (za (za (za (za (za HG.out (.inr HG4W.out.1) (p := ⟨g4, 0, none⟩) (.int .u8 (2 : Nat))) (.inr HG4W.out.1) (p := ⟨g4, 1, none⟩) (.int .u8 (0 : Nat))) (.inr HG4W.out.1) (p := ⟨g4, 2, none⟩) (.int .i64 0)) (.inr HG4W.out.1) (p := ⟨g4, 3, none⟩) (.int .i64 0)) (.inr HG4W.out.1) (p := ⟨g4, 4, none⟩) (.int .i64 0)) (.inr HG4W.out.1) (p := ⟨g4, 5, none⟩) (.bool nt)) (.inr HG4W.out.1) (p := ⟨g4, 6, none⟩) (.int .u8 (co : Nat))) (.inr HG4W.out.1) (p := ⟨g4, 7, none⟩) (.int .i64 cd)) (.inr HG4W.out.1) (p := ⟨g4, 8, none⟩) (.int .i64 cs)) (.inr HG4W.out.1) (p := ⟨g4, 9, none⟩) (.int .i64 cn)) (.inr HG4W.out.1) (p := ⟨g4, 10, none⟩) (.slice Ab bT.len cb)) (.inr HG4W.out.1) (p := ⟨g4, 11, none⟩) (.slice Ae eT.len ce)) (.inr HG4W.out.1) (p := ⟨g4, 12, none⟩) (.int .i64 (tk.ln : Nat)))
        have hx4 := HTB.out.grown hx0 (fun k hk e => by injection e with e; have := HE3.out; have hk' : g6 < k := hk; omega)
        have hx5 := HTE.out.grown hx0 (fun k hk e => by injection e with e; have := HE3.out; have hk' : g6 < k := hk; omega)
        have hx4 := hx4.mono (S' := fun k => w.heap.size ≤ k) (fun k hk _ => by have := HG4.out; have := HE3.out; have hk' : g6 < k := hk; omega)
        have hx5 := hx5.mono (S' := fun k => w.heap.size ≤ k) (fun k hk _ => by have := HG4.out; have := HE3.out; have hk' : g6 < k := hk; omega)
        clear hx0
        dsimp only at hx1 hx2 hx3 hx4 hx5 ⊢
        generalize ((((((((((((((WG.setCell ⟨g6, 11, none⟩ (.slice Ae eT.len ce)).setCell ⟨g4, 0, none⟩ (.int .u8 (2 : Nat))).setCell ⟨g4, 1, none⟩ (.int .u8 (0 : Nat))).setCell ⟨g4, 2, none⟩ (.int .i64 0)).setCell ⟨g4, 3, none⟩ (.int .i64 0)).setCell ⟨g4, 4, none⟩ (.int .i64 0)).setCell ⟨g4, 5, none⟩ (.bool nt)).setCell ⟨g4, 6, none⟩ (.int .u8 (co : Nat))).setCell ⟨g4, 7, none⟩ (.int .i64 cd)).setCell ⟨g4, 8, none⟩ (.int .i64 cs)).setCell ⟨g4, 9, none⟩ (.int .i64 cn)).setCell ⟨g4, 10, none⟩ (.slice Ab bT.len cb)).setCell ⟨g4, 11, none⟩ (.slice Ae eT.len ce)).setCell ⟨g4, 12, none⟩ (.int .i64 (tk.ln : Nat))) = W99 at hx1 hx2 hx3 hx4 hx5 ⊢
        refine bodyPost_ret (st_results rfl _ _ g4 rfl hx1) rfl ?_
        exact ⟨⟨2, ⟨0, 0, 0, 0⟩, ⟨nt, ⟨co, cd, cs, cn⟩⟩, bT, eT, (tk.ln : Nat)⟩, .slice Ab bT.len cb, .slice Ae eT.len ce, l3, _, m3, rfl, hx4, hx5, hx2, HM3.out, by rw [HT.out]; exact if_yes (by rw [HM1.out]; exact st_if HL.out (by rw [HSS.out]; rfl) (by rw [HSS.out]; rfl) (by rw [HSS.out]; rfl : look firL (hd l).s = some 1) HSS.out) HRC.out HRB.out HRE.out HRF.out, hx3⟩
set_option maxRecDepth 100000 in
set_option maxHeartbeats 40000000 in
theorem rstmt_do (dp : Nat) (hd20 : dp ≤ 20) (blk : Blk) (hblk : RBlkC (dp + 1) blk) (h : RS B w gp l none many) (hm : many < 500) (hss : (hd l).s = [100, 111]) :
  Calls Try.prog 77 #[.pointer (some ⟨gp, 0, none⟩), .int .i64 dp] w (RStPost (stmt false blk) B gp w l many) := by
 have HKN : Hid (Known (hd l).s) := by unfold Hid; rw [hss]; exact (known_mem _).2 (by decide)
 have HK4 : Hid ((hd l).k ≠ 4) := (h.tl.hd_s (by rw [hss]; decide)).1
 have hkk : (hd l).k = 1 := wordk h.tl.hd_ok (by rw [hss]; decide) (by rw [hss]; decide)
 have HSS := Lib.hid hss
 clear hss
 obtain ⟨d1, hd1⟩ : ∃ d1, d1 = dp + 1 := ⟨_, rfl⟩
 have hwd : IntKind.i64.wrap ((dp : Int) + 1) = (d1 : Int) := by rw [IntKind.wrap_i64]; omega; all_goals omega
 rw [← hd1] at hblk
 have HBLK := Lib.hid hblk
 clear hblk hd1
 obtain ⟨m1, hm1⟩ : ∃ m1, m1 = many + 1 := ⟨_, rfl⟩
 have hw1 : IntKind.i64.wrap ((many : Int) + 1) = (m1 : Int) := by rw [IntKind.wrap_i64]; omega; all_goals omega
 have hm501 : m1 ≤ 501 := by omega
 have HM1 := Lib.hid hm1
 have HM500 : Hid (m1 ≤ 500) := by unfold Hid; omega
 have htest : ¬ (500 : Int) < m1 := by omega
 have htest2 : ¬ (20 : Int) < dp := by omega
 have HL : Hid (¬ (500 < many + 1 ∨ false = true)) := by unfold Hid; simp; omega
 clear hm hd20 hm1
 have HKK := Lib.hid hkk
 clear hkk
 have hb1 : Below w.heap.size w (w.alloc zZ1) := (Below.refl _ _).alloc (Nat.le_refl _) _
 have h1 := h.below hb1
 have hr4 := st_row (k := 0) (i := i0) (c := c0) (vb := .slice none 0 0) (ve := .slice none 0 0) (ln := 0) (heap_alloc_new w zZ1)
 obtain ⟨tk, htk⟩ : ∃ tk, tk = hd l := ⟨_, rfl⟩
 have hN1 := rnow_any h1
 rw [← htk] at hN1
 have HN1 := Lib.hid hN1
 have HW := Lib.hid (And.intro h.bw h.bp)
 have HOK : Hid (TokOk tk) := by rw [htk]; exact h.tl.hd_ok
 have H1 := Lib.hid h1
 have HB1 := Lib.hid hb1
 have HR4 := Lib.hid hr4
 have HT := Lib.hid htk
 have hf3 := tok_f3
 have e1 : (w.alloc zZ1).heap.size = w.heap.size + 1 := World.size_alloc _ _
 have HE1 := Lib.hid e1
 clear h htk h1 hb1 hr4 hN1 e1
 go_enter Try.func77, Try.ntmps77
 go_wp2_with fail
 have hgg := HE1.out
 have hp := H1.out
 have r4 := HR4.out
 have hbw := HB1.out
 have HN1' := HN1.out
 clear H1 HR4 HB1 HN1 HE1
 generalize w.alloc zZ1 = W1 at *
 obtain ⟨g4, hg4⟩ : ∃ g4, g4 = w.heap.size := ⟨_, rfl⟩
 rw [← hg4] at r4 hgg ⊢
 have HG4 := Lib.hid hg4
 have HH := Lib.hid (And.intro hp (And.intro r4 (And.intro hbw hgg)))
 clear hp r4 hbw hgg hg4
 refine HN1'.mono ?_
 rintro e Wa ⟨rfl, hba⟩
 clear HN1'
 have hba2 : Below Wa.heap.size Wa (Wa.alloc (zZ3 tk)) := (Below.refl _ _).alloc (Nat.le_refl _) _
 have h2 := (HH.out.1.below hba).below hba2
 have hN2 := rnow_any h2
 rw [← HT.out] at hN2
 have HN2x := Lib.hid hN2
 have HP2 := Lib.hid h2
 have R42 := Lib.hid (ze hba2 (ze hba HH.out.2.1 HH.out.2.1.lt) (ze hba HH.out.2.1 HH.out.2.1.lt).lt)
 have R62 := Lib.hid (st_row (k := 1) (i := i0) (c := c0) (vb := .slice none 0 0) (ve := .slice none 0 0) (ln := tk.ln) (heap_alloc_new Wa (zZ3 tk)))
 have HGA := Lib.hid (zd (zb HH.out.2.2.1 (some gp)) (zd (zb hba (some gp)) (zb hba2 (some gp))))
 have HE3 : Hid (g4 < Wa.heap.size ∧ True ∧ True) := ⟨by have := HH.out.2.2.2; have := hba.size; omega, trivial, trivial⟩
 clear h2 hN2 hba hba2 HH
 go_wp2_with fail
 generalize Wa.alloc (zZ3 tk) = Wc at *
 obtain ⟨g6, hg6⟩ : ∃ g6, g6 = Wa.heap.size := ⟨_, rfl⟩
 rw [← hg6] at R62 HE3 ⊢
 clear hg6 hf3 Wa
 refine HN2x.out.mono ?_
 rintro e Wb ⟨rfl, hb⟩
 have hbt : Below Wb.heap.size Wb (Wb.alloc (.cells #[.int .u8 tk.k, .string (mkS tk.s), .int .i64 tk.n, .int .i64 tk.ln] 60)) := (Below.refl _ _).alloc (Nat.le_refl _) _
 have HP := Lib.hid ((HP2.out.below hb).below hbt)
 have R4 := Lib.hid (ze hbt (ze hb R42.out R42.out.lt) (ze hb R42.out R42.out.lt).lt)
 have R6 := Lib.hid (ze hbt (ze hb R62.out R62.out.lt) (ze hb R62.out R62.out.lt).lt)
 have G1 := Lib.hid (zd HGA.out (zd (zb hb (some gp)) (zb hbt (some gp))))
 obtain ⟨d0, d1, d2, d3⟩ := al_four Wb tk
 have HD1 := Lib.hid d1
 have HL5x : Hid (Wb.heap.size < (Wb.alloc (.cells #[.int .u8 tk.k, .string (mkS tk.s), .int .i64 tk.n, .int .i64 tk.ln] 60)).heap.size) := by unfold Hid; rw [World.size_alloc]; omega
 have HN46 : Hid (g4 ≠ g6) := by have := HE3.out; unfold Hid; omega
 have HN64 : Hid (g6 ≠ g4) := by have := HE3.out; unfold Hid; omega
 have HN4 : Hid (g4 ≠ gp) := by have := HW.out; have := HG4.out; unfold Hid; omega
 have HN6 : Hid (g6 ≠ gp) := by have := HW.out; have := HG4.out; have := HE3.out; unfold Hid; omega
 have HG4B : Hid (B ≤ g4 ∧ B ≤ g6) := by have := HW.out; have := HG4.out; have := HE3.out; unfold Hid; omega
 have HG4W : Hid (w.heap.size ≤ g4 ∧ w.heap.size ≤ g6) := by have := HG4.out; have := HE3.out; unfold Hid; omega
 have HN5 : Hid (Wb.heap.size ≠ gp ∧ Wb.heap.size ≠ g4 ∧ Wb.heap.size ≠ g6) := by
  have h1 := hb.size; have h2 := R62.out.lt; have := HW.out; have := HG4.out; have := HE3.out; unfold Hid; omega
 obtain ⟨s, hs⟩ : ∃ s, s = tk.s := ⟨_, rfl⟩
 have HS8 : Hid (∀ x ∈ s, x < 256) := by rw [hs]; exact HOK.out.1
 have HS : Hid (s = (hd l).s) := by rw [← HT.out]; exact hs
 clear HN2x HP2 R42 R62 HGA hb hbt d2 d3
 have KK : Hid (tk.k = 1) := by unfold Hid; rw [HT.out]; exact HKK.out
 have k1I : ((tk.k : Int) != 1) = false := by rw [show tk.k = 1 from KK.out]; rfl
 go_wp2_with fail
 try rw [show Wb.heap.size + 1 = (Wb.alloc (.cells #[.int .u8 tk.k, .string (mkS tk.s), .int .i64 tk.n, .int .i64 tk.ln] 60)).heap.size from (World.size_alloc _ _).symm]
 obtain ⟨g5, hg5⟩ : ∃ g5, g5 = Wb.heap.size := ⟨_, rfl⟩
 rw [← hs] at HD1 ⊢
 have T1 : Hid ((Wb.alloc (.cells #[.int .u8 tk.k, .string (mkS s), .int .i64 tk.n, .int .i64 tk.ln] 60)).cell? ⟨g5, 1, none⟩ = some (.string (mkS s))) := by rw [hg5]; exact HD1.out
 have HL5 := HL5x
 rw [← hs] at HP R4 R6 G1 HL5
 rw [← hg5] at HL5 HN5 ⊢
 generalize Wb.alloc (.cells #[.int .u8 tk.k, .string (mkS s), .int .i64 tk.n, .int .i64 tk.ln] 60) = Wd at *
 clear hg5 HD1 HL5x d0 d1 Wb hs
 clear k1I
 have hcn : ∀ i (hi : i < knownS.length), (Wd.alloc zZ5).cell? ⟨(World.heap Wd).size, i, none⟩ = some (.string (mkS knownS[i])) := fun i hi => by
  rw [cell_of_row _ _ _ _ _ _ (heap_alloc_new _ _)]
  match i, hi with
  | 0, _ => rfl
  | 1, _ => rfl
  | 2, _ => rfl
  | 3, _ => rfl
  | 4, _ => rfl
  | 5, _ => rfl
  | 6, _ => rfl
  | 7, _ => rfl
  | 8, _ => rfl
  | 9, _ => rfl
  | 10, _ => rfl
  | 11, _ => rfl
  | 12, _ => rfl
  | 13, _ => rfl
  | 14, _ => rfl
 have HCN := Lib.hid hcn
 have hb : Below (World.heap Wd).size Wd (Wd.alloc zZ5) := (Below.refl _ _).alloc (Nat.le_refl _) _
 replace HP := Lib.hid (HP.out.below hb)
 replace G1 := Lib.hid (zd G1.out (zb hb (some gp)))
 replace R4 := Lib.hid (ze hb R4.out R4.out.lt)
 replace R6 := Lib.hid (ze hb R6.out R6.out.lt)
 replace T1 := Lib.hid ((hb.cell (World.block_lt_of_cell? _ _ T1.out)).trans T1.out)
 replace HL5 : Hid (g5 < _) := Nat.lt_of_lt_of_le HL5.out hb.size
 clear hb
 clear hcn
 generalize World.alloc Wd zZ5 = X at *
 generalize (World.heap Wd).size = g7 at *
 have R0 : ∃ i : Nat, (Value.int .i64 0) = .int .i64 i ∧ i ≤ 15 ∧ (Value.bool false) = .bool (decide (s ∈ knownS.take i)) ∧ Below X.heap.size X X := ⟨0, rfl, by omega, by simp, Below.refl _ _⟩
 go_loopw [8, 9] (fun v8 v9 wr => ∃ i : Nat, v9 = .int .i64 i ∧ i ≤ 15 ∧ v8 = .bool (decide (s ∈ knownS.take i)) ∧ Below X.heap.size X wr) (fun _ v _ => 15 - (intOf v).toNat)
 case atStart => exact R0
 case round =>
  clear R0
  obtain ⟨i, rfl, hi, rfl, hb⟩ := hrel
  by_cases hl : i < 15
  · have hlI : (i : Int) < 15 := by omega
    have i0' : (0 : Int) ≤ i := by omega
    have iT : ((i : Int)).toNat = i := by omega
    have hwi : IntKind.i64.wrap ((i : Int) + 1) = ((i + 1 : Nat) : Int) := by rw [IntKind.wrap_i64]; omega; all_goals omega
    have hlk : i < knownS.length := hl
    have hci := (hb.cell (World.block_lt_of_cell? _ _ (HCN.out i hlk))).trans (HCN.out i hlk)
    obtain ⟨x, hx⟩ : ∃ x, x = knownS[i] := ⟨_, rfl⟩
    rw [← hx] at hci
    have htk : knownS.take (i + 1) = knownS.take i ++ [x] := by rw [hx, List.take_succ_eq_append_getElem hlk]
    have hx8 := knownS_b8 x (by rw [hx]; exact List.getElem_mem hlk)
    have HTK := Lib.hid htk
    have HB := Lib.hid hb
    by_cases hin : s ∈ knownS.take i
    · have hin2 : s ∈ knownS.take (i + 1) := by rw [htk]; exact List.mem_append_left _ hin
      rw [decide_eq_true hin]
      have HIN := Lib.hid hin2
      have HLL := Lib.hid hl
      clear hin hin2 htk hx hx8 hb hl
      go_wp2_with fail
      go_roundw
      case rel => exact ⟨i + 1, rfl, HLL.out, by rw [decide_eq_true HIN.out], HB.out⟩
      case measure => show 15 - (i + 1 : Nat) < 15 - i; have := HLL.out; omega
    · rw [decide_eq_false hin]
      have HI := Lib.hid (ris_any (HP.out.below hb) (mkS x) x rfl hx8.1 hx8.2)
      rw [← HS.out] at HI
      have HIN := Lib.hid hin
      have HLL := Lib.hid hl
      clear hin htk hx hx8 hb hl
      obtain ⟨r, hr⟩ : ∃ r, r = decide (s = x) := ⟨_, rfl⟩
      rw [← hr] at HI
      have HRR := Lib.hid hr
      clear hr
      go_wp2_with fail
      refine HI.out.mono ?_
      rintro e w3 ⟨rfl, hb3⟩
      have HB3 := Lib.hid (HB.out.trans (hb3.mono HB.out.size))
      clear hb3 HI
      go_wp2_with fail
      go_roundw
      case rel =>
       refine ⟨i + 1, rfl, HLL.out, ?_, HB3.out⟩
       rw [HRR.out, HTK.out]
       have hin := HIN.out
       congr 1
       rw [Bool.eq_iff_iff, decide_eq_true_eq, decide_eq_true_eq, List.mem_append, List.mem_singleton]
       exact ⟨fun e => .inr e, fun e => by rcases e with e | e; exact absurd e hin; exact e⟩
      case measure => show 15 - (i + 1 : Nat) < 15 - i; have := HLL.out; omega
  · have hlI : ¬ (i : Int) < 15 := by omega
    have hii : i = 15 := by omega
    subst hii
    rw [show knownS.take 15 = knownS from rfl]
    have HB := Lib.hid hb
    clear hb hl hi
    have hb := HB.out
    replace HP := Lib.hid (HP.out.below hb)
    replace G1 := Lib.hid (zd G1.out (zb hb (some gp)))
    replace R4 := Lib.hid (ze hb R4.out R4.out.lt)
    replace R6 := Lib.hid (ze hb R6.out R6.out.lt)
    replace T1 := Lib.hid ((hb.cell (World.block_lt_of_cell? _ _ T1.out)).trans T1.out)
    replace HL5 : Hid (g5 < _) := Nat.lt_of_lt_of_le HL5.out hb.size
    clear hb
    clear HB HCN
    rw [decide_eq_true ((known_mem _).1 (HS.out ▸ HKN.out))]
    obtain ⟨gq, cq0, Lq, kq, qq, -⟩ := HP.out.ex
    have f4 : wr.cell? ⟨gp, 4, none⟩ = some (.int .i64 many) := qq.cell (show 4 < 5 by omega)
    have z4x := qq.frozen 4
    clear qq
    have h8 := HP.out.setM (m := m1) hm501
    have g8 := za G1.out (.inl rfl) (p := ⟨gp, 4, none⟩) (.int .i64 (m1 : Nat))
    have hgs : wr.grownBy (wr.setCell ⟨gp, 4, none⟩ (.int .i64 (m1 : Nat))) (some gp) := za (zf _ _) (.inl rfl) _
    have r48 := zc hgs R4.out HN4.out
    have r68 := zc hgs R6.out HN6.out
    have t18 : World.cell? (wr.setCell ⟨gp, 4, none⟩ (.int .i64 (m1 : Nat))) ⟨g5, 1, none⟩ = some (.string (mkS s)) := (grown_cell hgs (p := ⟨g5, 1, none⟩) (World.block_lt_of_cell? _ _ T1.out) HN5.out.1).trans T1.out
    have n5p := HN5.out.1
    have n56 := HN5.out.2.2
    have n65 : g6 ≠ g5 := fun e => HN5.out.2.2 e.symm
    have n54 := HN5.out.2.1
    clear HP G1 R4 R6 T1 hgs
    have q0 : ((mkS s).toList == ([104, 97, 108, 116] : List UInt8)) = false := nW [104, 97, 108, 116] HS8.out (by decide) (by rw [HS.out, HSS.out]; decide)
    have q1 : ((mkS s).toList == ([104, 97, 115, 104] : List UInt8)) = false := nW [104, 97, 115, 104] HS8.out (by decide) (by rw [HS.out, HSS.out]; decide)
    have q2 : ((mkS s).toList == ([104, 97, 115, 104, 100] : List UInt8)) = false := nW [104, 97, 115, 104, 100] HS8.out (by decide) (by rw [HS.out, HSS.out]; decide)
    have q3 : ((mkS s).toList == ([111, 117, 116] : List UInt8)) = false := nW [111, 117, 116] HS8.out (by decide) (by rw [HS.out, HSS.out]; decide)
    have q4 : ((mkS s).toList == ([122, 101, 114, 111] : List UInt8)) = false := nW [122, 101, 114, 111] HS8.out (by decide) (by rw [HS.out, HSS.out]; decide)
    have q5 : ((mkS s).toList == ([115, 119, 97, 112] : List UInt8)) = false := nW [115, 119, 97, 112] HS8.out (by decide) (by rw [HS.out, HSS.out]; decide)
    have q6 : ((mkS s).toList == ([126] : List UInt8)) = false := nW [126] HS8.out (by decide) (by rw [HS.out, HSS.out]; decide)
    have q7 : ((mkS s).toList == ([114] : List UInt8)) = false := nW [114] HS8.out (by decide) (by rw [HS.out, HSS.out]; decide)
    have q8 : ((mkS s).toList == ([105, 102] : List UInt8)) = false := nW [105, 102] HS8.out (by decide) (by rw [HS.out, HSS.out]; decide)
    have q9 : ((mkS s).toList == ([100, 111] : List UInt8)) = true := by rw [show ([100, 111] : List UInt8) = (mkS [100, 111]).toList from (by rw [Lib.toList_data]; rfl), mkS_eq HS8.out (by decide)]; exact decide_eq_true (by rw [HS.out, HSS.out])
    have hgs := (za (zf (wr.setCell ⟨gp, 4, none⟩ (.int .i64 (m1 : Nat))) (some g6)) (.inl rfl) (p := ⟨g6, 0, none⟩) (.int .u8 3))
    have hA := h8.kept (row := some g6) hgs (fun k e => by injection e with e; subst e; exact HG4B.out.2)
    have gA := (za g8 (.inr HG4W.out.2) (p := ⟨g6, 0, none⟩) (.int .u8 3))
    have r4A := zc hgs r48 HN46.out
    have r6A : World.rowIs ((wr.setCell ⟨gp, 4, none⟩ (.int .i64 (m1 : Nat))).setCell ⟨g6, 0, none⟩ (.int .u8 3)) g6 75 13 (stF 3 i0 c0 (.slice none 0 0) (.slice none 0 0) (tk.ln : Nat)) := st_setK 3 r68
    have y0 := r68.cell (show 0 < 13 by omega)
    have x0 := r68.frozen 0
    dsimp only [stF, i0, c0] at y0
    clear h8 g8 r48 r68 hgs
    have hst := rstep_any hA
    rw [if_neg HK4.out] at hst
    have HM := Lib.hid (hst)
    have HHG := Lib.hid gA
    have HHR4 := Lib.hid r4A
    have HHR6 := Lib.hid r6A
    clear gA r4A r6A
    go_wp2_with fail
    refine HM.out.mono ?_
    rintro e W6 ⟨rfl, hB, hgn⟩
    have gB := zd HHG.out hgn
    have r4B := zc hgn HHR4.out HN4.out
    have r6B := zc hgn HHR6.out HN6.out
    clear HM HHG HHR4 HHR6
    clear hst hgn hA
    clear q0 q1 q2 q3 q4 q5 q6 q7 q8 q9
    clear y0 x0
    have hlt : g6 < (W6).heap.size := r6B.lt
    have HM := Lib.hid (HBLK.out B gp (W6) l.tail none m1 hB (fun _ => HM500.out))
    have HHG := Lib.hid gB
    have HHR4 := Lib.hid r4B
    have HHR6 := Lib.hid r6B
    clear gB r4B r6B
    go_wp2_with fail
    refine HM.out.mono ?_
    rintro e WD ⟨vb, bT, l1, b1, m2, rfl, htr, hC, hm2, hrb, hgn⟩
    have gC := zd HHG.out hgn
    have r4C := zc hgn HHR4.out HN4.out
    have r6C := zc hgn HHR6.out HN6.out
    clear HM HHG HHR4 HHR6
    obtain ⟨Ab, cb, hv⟩ := htr.form
    subst hv
    have HTRC : Hid (Tr WD (fun k => g6 < k) _ bT) := htr.mono (fun k hk _ => Nat.lt_of_lt_of_le hlt hk)
    clear htr hlt hB
    have HRB := Lib.hid hrb
    have HM2 := Lib.hid hm2
    clear hrb hm2 hgn
    have hgs := (za (zf WD (some g6)) (.inl rfl) (p := ⟨g6, 10, none⟩) (.slice Ab bT.len cb))
    have hD := hC.kept (row := some g6) hgs (fun k e => by injection e with e; subst e; exact HG4B.out.2)
    have gD := (za gC (.inr HG4W.out.2) (p := ⟨g6, 10, none⟩) (.slice Ab bT.len cb))
    have r4D := zc hgs r4C HN46.out
    have r6D := st_setB (.slice Ab bT.len cb) r6C
    have y10 := r6C.cell (show 10 < 13 by omega)
    have x10 := r6C.frozen 10
    dsimp only [stF, i0, c0] at y10
    have htc := HTRC.out.grown hgs (fun k hk e => by injection e with e; have hk1 : g6 < k := hk; omega)
    clear hC gC r4C r6C hgs
    have HTC := Lib.hid htc
    clear htc HTRC
    have HM := Lib.hid (rtake_any hD ⟨#[119, 104, 105, 108, 101]⟩ [119, 104, 105, 108, 101] rfl (by decide) (by decide))
    have HHG := Lib.hid gD
    have HHR4 := Lib.hid r4D
    have HHR6 := Lib.hid r6D
    clear gD r4D r6D
    go_wp2_with fail
    refine HM.out.mono ?_
    rintro e WE ⟨rfl, l2, b2, hE, hrw, hgn⟩
    have gE := zd HHG.out hgn
    have r4E := zc hgn HHR4.out HN4.out
    have r6E := zc hgn HHR6.out HN6.out
    clear HM HHG HHR4 HHR6
    have HTD := Lib.hid (HTC.out.grown hgn (fun k hk e => by injection e with e; have hk1 : g6 < k := hk; have := HG4B.out.2; have := HW.out.2; omega))
    have HRW := Lib.hid hrw
    clear hgn hrw HTC hD
    clear y10 x10
    have HM := Lib.hid (rcond_any hE)
    have HHG := Lib.hid gE
    have HHR4 := Lib.hid r4E
    have HHR6 := Lib.hid r6E
    clear gE r4E r6E
    go_wp2_with fail
    refine HM.out.mono ?_
    rintro e WF ⟨⟨nt, ⟨co, cd, cs, cn⟩⟩, l3, b3, rfl, hG, hrc, hgn⟩
    have gG := zd HHG.out hgn
    have r4G := zc hgn HHR4.out HN4.out
    have r6G := zc hgn HHR6.out HN6.out
    clear HM HHG HHR4 HHR6
    dsimp only [conC]
    have HTE1 := Lib.hid (HTD.out.grown hgn (fun k hk e => by injection e with e; have hk1 : g6 < k := hk; have := HG4B.out.2; have := HW.out.2; omega))
    have HRC := Lib.hid hrc
    clear hrc hgn HTD hE
    have hgs := (za (za (za (za (za (zf WF (some g6)) (.inl rfl) (p := ⟨g6, 5, none⟩) (.bool nt)) (.inl rfl) (p := ⟨g6, 6, none⟩) (.int .u8 (co : Nat))) (.inl rfl) (p := ⟨g6, 7, none⟩) (.int .i64 cd)) (.inl rfl) (p := ⟨g6, 8, none⟩) (.int .i64 cs)) (.inl rfl) (p := ⟨g6, 9, none⟩) (.int .i64 cn))
    have hF := hG.kept (row := some g6) hgs (fun k e => by injection e with e; subst e; exact HG4B.out.2)
    have gF := (za (za (za (za (za gG (.inr HG4W.out.2) (p := ⟨g6, 5, none⟩) (.bool nt)) (.inr HG4W.out.2) (p := ⟨g6, 6, none⟩) (.int .u8 (co : Nat))) (.inr HG4W.out.2) (p := ⟨g6, 7, none⟩) (.int .i64 cd)) (.inr HG4W.out.2) (p := ⟨g6, 8, none⟩) (.int .i64 cs)) (.inr HG4W.out.2) (p := ⟨g6, 9, none⟩) (.int .i64 cn))
    have r4F := zc hgs r4G HN46.out
    have r6F := st_setC ⟨nt, ⟨co, cd, cs, cn⟩⟩ r6G
    have y5 := r6G.cell (show 5 < 13 by omega)
    have x5 := r6G.frozen 5
    have y6 := r6G.cell (show 6 < 13 by omega)
    have x6 := r6G.frozen 6
    have y7 := r6G.cell (show 7 < 13 by omega)
    have x7 := r6G.frozen 7
    have y8 := r6G.cell (show 8 < 13 by omega)
    have x8 := r6G.frozen 8
    have y9 := r6G.cell (show 9 < 13 by omega)
    have x9 := r6G.frozen 9
    dsimp only [stF, i0, c0] at y5 y6 y7 y8 y9
    have htb := HTE1.out.grown hgs (fun k hk e => by injection e with e; have hk1 : g6 < k := hk; omega)
    clear hG gG r4G r6G hgs
    have HTB9 := Lib.hid htb
    clear htb HTE1
    have H6 := Lib.hid hF
    have HG := Lib.hid gF
    have HR6 := Lib.hid r6F
    have HR4' := Lib.hid r4F
    have HTB := Lib.hid (HTB9.out)
    have HTE := Lib.hid (Tr.nil (((((WF.setCell ⟨g6, 5, none⟩ (.bool nt)).setCell ⟨g6, 6, none⟩ (.int .u8 (co : Nat))).setCell ⟨g6, 7, none⟩ (.int .i64 cd)).setCell ⟨g6, 8, none⟩ (.int .i64 cs)).setCell ⟨g6, 9, none⟩ (.int .i64 cn)) (fun k => g6 < k))
    have a0 := r6F.cell (show 0 < 13 by omega)
    have b0 := r4F.cell (show 0 < 13 by omega)
    have z0 := r4F.frozen 0
    have a1 := r6F.cell (show 1 < 13 by omega)
    have b1 := r4F.cell (show 1 < 13 by omega)
    have z1 := r4F.frozen 1
    have a2 := r6F.cell (show 2 < 13 by omega)
    have b2 := r4F.cell (show 2 < 13 by omega)
    have z2 := r4F.frozen 2
    have a3 := r6F.cell (show 3 < 13 by omega)
    have b3 := r4F.cell (show 3 < 13 by omega)
    have z3 := r4F.frozen 3
    have a4 := r6F.cell (show 4 < 13 by omega)
    have b4 := r4F.cell (show 4 < 13 by omega)
    have z4 := r4F.frozen 4
    have a5 := r6F.cell (show 5 < 13 by omega)
    have b5 := r4F.cell (show 5 < 13 by omega)
    have z5 := r4F.frozen 5
    have a6 := r6F.cell (show 6 < 13 by omega)
    have b6 := r4F.cell (show 6 < 13 by omega)
    have z6 := r4F.frozen 6
    have a7 := r6F.cell (show 7 < 13 by omega)
    have b7 := r4F.cell (show 7 < 13 by omega)
    have z7 := r4F.frozen 7
    have a8 := r6F.cell (show 8 < 13 by omega)
    have b8 := r4F.cell (show 8 < 13 by omega)
    have z8 := r4F.frozen 8
    have a9 := r6F.cell (show 9 < 13 by omega)
    have b9 := r4F.cell (show 9 < 13 by omega)
    have z9 := r4F.frozen 9
    have a10 := r6F.cell (show 10 < 13 by omega)
    have b10 := r4F.cell (show 10 < 13 by omega)
    have z10 := r4F.frozen 10
    have a11 := r6F.cell (show 11 < 13 by omega)
    have b11 := r4F.cell (show 11 < 13 by omega)
    have z11 := r4F.frozen 11
    have a12 := r6F.cell (show 12 < 13 by omega)
    have b12 := r4F.cell (show 12 < 13 by omega)
    have z12 := r4F.frozen 12
    dsimp only [stF, i0, c0] at a0 b0 a1 b1 a2 b2 a3 b3 a4 b4 a5 b5 a6 b6 a7 b7 a8 b8 a9 b9 a10 b10 a11 b11 a12 b12
    clear hF gF r6F r4F
    go_wp2_with fail
    (try simp only [Exit.inBlock, Exit.then])
    have hx0 := (za (za (za (za (za (za (za (za (za (za (za (za (za (zf (((((WF.setCell ⟨g6, 5, none⟩ (.bool nt)).setCell ⟨g6, 6, none⟩ (.int .u8 (co : Nat))).setCell ⟨g6, 7, none⟩ (.int .i64 cd)).setCell ⟨g6, 8, none⟩ (.int .i64 cs)).setCell ⟨g6, 9, none⟩ (.int .i64 cn)) (some g4)) (.inl rfl) (p := ⟨g4, 0, none⟩) (.int .u8 (3 : Nat))) (.inl rfl) (p := ⟨g4, 1, none⟩) (.int .u8 (0 : Nat))) (.inl rfl) (p := ⟨g4, 2, none⟩) (.int .i64 0)) (.inl rfl) (p := ⟨g4, 3, none⟩) (.int .i64 0)) (.inl rfl) (p := ⟨g4, 4, none⟩) (.int .i64 0)) (.inl rfl) (p := ⟨g4, 5, none⟩) (.bool nt)) (.inl rfl) (p := ⟨g4, 6, none⟩) (.int .u8 (co : Nat))) (.inl rfl) (p := ⟨g4, 7, none⟩) (.int .i64 cd)) (.inl rfl) (p := ⟨g4, 8, none⟩) (.int .i64 cs)) (.inl rfl) (p := ⟨g4, 9, none⟩) (.int .i64 cn)) (.inl rfl) (p := ⟨g4, 10, none⟩) (.slice Ab bT.len cb)) (.inl rfl) (p := ⟨g4, 11, none⟩) (.slice none 0 0)) (.inl rfl) (p := ⟨g4, 12, none⟩) (.int .i64 (tk.ln : Nat)))
    have hx1 := st_all 3 ⟨0, 0, 0, 0⟩ ⟨nt, ⟨co, cd, cs, cn⟩⟩ (.slice Ab bT.len cb) (.slice none 0 0) ((tk.ln : Nat)) HR4'.out
    have hx2 := H6.out.kept (row := some g4) hx0 (fun k e => by injection e with e; subst e; exact HG4B.out.1)
    have hx3 := (za (za (za (za (za (za (za (za (za (za (za (za (za HG.out (.inr HG4W.out.1) (p := ⟨g4, 0, none⟩) (.int .u8 (3 : Nat))) (.inr HG4W.out.1) (p := ⟨g4, 1, none⟩) (.int .u8 (0 : Nat))) (.inr HG4W.out.1) (p := ⟨g4, 2, none⟩) (.int .i64 0)) (.inr HG4W.out.1) (p := ⟨g4, 3, none⟩) (.int .i64 0)) (.inr HG4W.out.1) (p := ⟨g4, 4, none⟩) (.int .i64 0)) (.inr HG4W.out.1) (p := ⟨g4, 5, none⟩) (.bool nt)) (.inr HG4W.out.1) (p := ⟨g4, 6, none⟩) (.int .u8 (co : Nat))) (.inr HG4W.out.1) (p := ⟨g4, 7, none⟩) (.int .i64 cd)) (.inr HG4W.out.1) (p := ⟨g4, 8, none⟩) (.int .i64 cs)) (.inr HG4W.out.1) (p := ⟨g4, 9, none⟩) (.int .i64 cn)) (.inr HG4W.out.1) (p := ⟨g4, 10, none⟩) (.slice Ab bT.len cb)) (.inr HG4W.out.1) (p := ⟨g4, 11, none⟩) (.slice none 0 0)) (.inr HG4W.out.1) (p := ⟨g4, 12, none⟩) (.int .i64 (tk.ln : Nat)))
    have hx4 := HTB.out.grown hx0 (fun k hk e => by injection e with e; have := HE3.out; have hk' : g6 < k := hk; omega)
    have hx5 := HTE.out.grown hx0 (fun k hk e => by injection e with e; have := HE3.out; have hk' : g6 < k := hk; omega)
    have hx4 := hx4.mono (S' := fun k => w.heap.size ≤ k) (fun k hk _ => by have := HG4.out; have := HE3.out; have hk' : g6 < k := hk; omega)
    have hx5 := hx5.mono (S' := fun k => w.heap.size ≤ k) (fun k hk _ => by have := HG4.out; have := HE3.out; have hk' : g6 < k := hk; omega)
    clear hx0
    dsimp only at hx1 hx2 hx3 hx4 hx5 ⊢
    generalize ((((((((((((((((((WF.setCell ⟨g6, 5, none⟩ (.bool nt)).setCell ⟨g6, 6, none⟩ (.int .u8 (co : Nat))).setCell ⟨g6, 7, none⟩ (.int .i64 cd)).setCell ⟨g6, 8, none⟩ (.int .i64 cs)).setCell ⟨g6, 9, none⟩ (.int .i64 cn)).setCell ⟨g4, 0, none⟩ (.int .u8 (3 : Nat))).setCell ⟨g4, 1, none⟩ (.int .u8 (0 : Nat))).setCell ⟨g4, 2, none⟩ (.int .i64 0)).setCell ⟨g4, 3, none⟩ (.int .i64 0)).setCell ⟨g4, 4, none⟩ (.int .i64 0)).setCell ⟨g4, 5, none⟩ (.bool nt)).setCell ⟨g4, 6, none⟩ (.int .u8 (co : Nat))).setCell ⟨g4, 7, none⟩ (.int .i64 cd)).setCell ⟨g4, 8, none⟩ (.int .i64 cs)).setCell ⟨g4, 9, none⟩ (.int .i64 cn)).setCell ⟨g4, 10, none⟩ (.slice Ab bT.len cb)).setCell ⟨g4, 11, none⟩ (.slice none 0 0)).setCell ⟨g4, 12, none⟩ (.int .i64 (tk.ln : Nat))) = W99 at hx1 hx2 hx3 hx4 hx5 ⊢
    refine bodyPost_ret (st_results rfl _ _ g4 rfl hx1) rfl ?_
    exact ⟨⟨3, ⟨0, 0, 0, 0⟩, ⟨nt, ⟨co, cd, cs, cn⟩⟩, bT, .nil, (tk.ln : Nat)⟩, .slice Ab bT.len cb, .slice none 0 0, l3, _, m2, rfl, hx4, hx5, hx2, (fun e => HM2.out (by have h1 := HRW.out; have h2 := HRC.out; subst e; exact none_back h1 h2)), by rw [HT.out]; exact do_any (by rw [HM1.out]; exact st_do HL.out (by rw [HSS.out]; rfl) (by rw [HSS.out]; rfl) (by rw [HSS.out]; rfl : look firL (hd l).s = some 1) HSS.out) HRB.out HRW.out HRC.out, hx3⟩
end
end Go.Proofs.Ytiadfmhodlbkiaa
