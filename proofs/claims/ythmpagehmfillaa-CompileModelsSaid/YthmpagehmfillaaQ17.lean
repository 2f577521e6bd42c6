/-
  THE WALK OF parse's stmt, fourth part: if, do. Conditions: a parser; what a block's parser does, one level deeper.
-/
import Derived.Test.YthmpagehmfillaaQ16
namespace Go.Proofs.Ythmpagehmfillaa
open Go.RowKit
set_option linter.unusedSimpArgs false
set_option linter.unusedVariables false
theorem Tr.form {w : World} {S : Nat → Prop} {v : Value} {T : Sts} (h : Tr w S v T) : ∃ A c, v = .slice A T.len c := by
  obtain ⟨V, ⟨-, A, c, e, -⟩, -⟩ := h
  exact ⟨A, c, e⟩
section
variable {w : World} {B gp gi : Nat} {l : List Tok} {b : Option Flt} {many : Nat}
set_option maxRecDepth 100000 in
set_option maxHeartbeats 40000000 in
theorem pstmt_if (dp : Nat) (hd20 : dp ≤ 20) (blk : Blk) (hblk : BlkC (dp + 1) blk) (h : PS B w gp l none many) (hm : many < 500) (hkb' : look bareL (hd l).s = none) (hku' : look unaL (hd l).s = none) (hkf' : look firL (hd l).s = some 1) (hss : (hd l).s = [105, 102]) :
    Calls Try.prog 95 #[.pointer (some ⟨gp, 0, none⟩), .int .i64 dp] w (StPost (stmt false blk) B gp w l many) := by
  have HKB := Lib.hid hkb'
  have HKU := Lib.hid hku'
  have HKF := Lib.hid hkf'
  have HSS := Lib.hid hss
  clear hss
  obtain ⟨d1, hd1⟩ : ∃ d1, d1 = dp + 1 := ⟨_, rfl⟩
  have hwd : IntKind.i64.wrap ((dp : Int) + 1) = (d1 : Int) := by rw [IntKind.wrap_i64]; omega; all_goals omega
  rw [← hd1] at hblk
  have HBLK := Lib.hid hblk
  clear hblk hd1
  obtain ⟨m1, hm1⟩ : ∃ m1, m1 = many + 1 := ⟨_, rfl⟩
  have hw1 : IntKind.i64.wrap ((many : Int) + 1) = (m1 : Int) := by rw [IntKind.wrap_i64]; omega; all_goals omega
  have hm501 : m1 ≤ 501 := by omega
  have HM1 := Lib.hid hm1
  have HM500 : Hid (m1 ≤ 500) := by unfold Hid; omega
  have htest : ¬ (500 : Int) < m1 := by omega
  have htest2 : ¬ (20 : Int) < dp := by omega
  have HL : Hid (¬ (500 < many + 1 ∨ false = true)) := by unfold Hid; simp; omega
  clear hm hd20 hm1
  have hb1 : Below w.heap.size w (w.alloc (.cells (stA 0 i0 c0 (.slice none 0 0) (.slice none 0 0) 0) 60)) := (Below.refl _ _).alloc (Nat.le_refl _) _
  have h1 := h.below hb1
  have hr4 := st_row (heap_alloc_new w (.cells (stA 0 i0 c0 (.slice none 0 0) (.slice none 0 0) 0) 60))
  obtain ⟨g, o, c, q1, q2, q3, q4, q5, q6⟩ := h1.ex
  obtain ⟨t0, t1, t2, t3⟩ := q6.head h1.tl
  have f0 := q1.cell (show 0 < 4 by omega)
  dsimp only [psF] at f0
  have hl : 0 < l.length := List.length_pos_iff.2 h.tl.ne
  have hlI : (0 : Int) < l.length := by omega
  obtain ⟨tk, htk⟩ : ∃ tk, tk = hd l := ⟨_, rfl⟩
  rw [← htk] at t0 t1 t2 t3
  have hs8 : B8 tk.s := by rw [htk]; exact h.tl.hd_ok.1
  have HW := Lib.hid (And.intro h.bw h.bp)
  have H1 := Lib.hid h1
  have HB1 := Lib.hid hb1
  have HR4 := Lib.hid hr4
  have HT := Lib.hid htk
  clear h htk q1 q6 h1 hb1 hr4
  rw [show stA 0 i0 c0 (.slice none 0 0) (.slice none 0 0) 0 = #[.int .u8 0, .int .u8 0, .int .i64 0, .int .i64 0, .int .i64 0, .bool false, .int .u8 0, .int .i64 0, .int .i64 0, .int .i64 0, .slice none 0 0, .slice none 0 0, .int .i64 0] from rfl] at f0 t0 t1 t2 t3
  go_enter Try.func95, Try.ntmps95
  go_wp2_with fail
  have h1 := H1.out
  have hb1 := HB1.out
  have hr4 := HR4.out
  clear H1 HB1 HR4 f0 t0 t1 t2 t3
  rw [show stA 0 i0 c0 (.slice none 0 0) (.slice none 0 0) 0 = #[.int .u8 0, .int .u8 0, .int .i64 0, .int .i64 0, .int .i64 0, .bool false, .int .u8 0, .int .i64 0, .int .i64 0, .int .i64 0, .slice none 0 0, .slice none 0 0, .int .i64 0] from rfl] at h1 hb1 hr4
  have e1 : (w.alloc (.cells #[.int .u8 0, .int .u8 0, .int .i64 0, .int .i64 0, .int .i64 0, .bool false, .int .u8 0, .int .i64 0, .int .i64 0, .int .i64 0, .slice none 0 0, .slice none 0 0, .int .i64 0] 60)).heap.size = w.heap.size + 1 := World.size_alloc _ _
  generalize w.alloc (.cells #[.int .u8 0, .int .u8 0, .int .i64 0, .int .i64 0, .int .i64 0, .bool false, .int .u8 0, .int .i64 0, .int .i64 0, .int .i64 0, .slice none 0 0, .slice none 0 0, .int .i64 0] 60) = W1 at *
  have ht5 := al_four W1 tk
  have hb2 : Below W1.heap.size W1 (W1.alloc (.cells #[.int .u8 tk.k, .string (mkS tk.s), .int .i64 tk.n, .int .i64 tk.ln] 111)) := (Below.refl _ _).alloc (Nat.le_refl _) _
  have h2 := h1.below hb2
  have hr42 := below_row hb2 hr4 hr4.lt
  have e2 : (W1.alloc (.cells #[.int .u8 tk.k, .string (mkS tk.s), .int .i64 tk.n, .int .i64 tk.ln] 111)).heap.size = W1.heap.size + 1 := World.size_alloc _ _
  generalize W1.alloc (.cells #[.int .u8 tk.k, .string (mkS tk.s), .int .i64 tk.n, .int .i64 tk.ln] 111) = W2 at *
  have hb3 : Below W2.heap.size W2 (W2.alloc (.cells #[.int .u8 1, .int .u8 0, .int .i64 0, .int .i64 0, .int .i64 0, .bool false, .int .u8 0, .int .i64 0, .int .i64 0, .int .i64 0, .slice none 0 0, .slice none 0 0, .int .i64 tk.ln] 60)) := (Below.refl _ _).alloc (Nat.le_refl _) _
  have h3 := h2.below hb3
  have hr43 := below_row hb3 hr42 hr42.lt
  have ht53 := ht5.keep (hb3.block W1.heap.size (by omega))
  have hr63 := st_row (k := 1) (i := i0) (c := c0) (vb := .slice none 0 0) (ve := .slice none 0 0) (ln := tk.ln) (heap_alloc_new W2 (.cells #[.int .u8 1, .int .u8 0, .int .i64 0, .int .i64 0, .int .i64 0, .bool false, .int .u8 0, .int .i64 0, .int .i64 0, .int .i64 0, .slice none 0 0, .slice none 0 0, .int .i64 tk.ln] 60))
  have hg3 := grown_of_below ((hb1.trans (hb2.mono hb1.size)).trans (hb3.mono (Nat.le_trans hb1.size hb2.size))) (some gp)
  have e3 : w.heap.size < W2.heap.size ∧ w.heap.size + 2 = W2.heap.size ∧ w.heap.size + 1 = W1.heap.size := by omega
  generalize W2.alloc (.cells #[.int .u8 1, .int .u8 0, .int .i64 0, .int .i64 0, .int .i64 0, .bool false, .int .u8 0, .int .i64 0, .int .i64 0, .int .i64 0, .slice none 0 0, .slice none 0 0, .int .i64 tk.ln] 60) = W3 at *
  rw [show w.heap.size + 1 + 1 = W2.heap.size by omega, show w.heap.size + 1 = W1.heap.size by omega]
  clear hb1 hb2 hb3 hr4 hr42 h1 h2 ht5 e1 e2
  generalize W1.heap.size = g5 at *
  generalize W2.heap.size = g6 at *
  clear W1 W2
  obtain ⟨g4, hg4⟩ : ∃ g4, g4 = w.heap.size := ⟨_, rfl⟩
  rw [← hg4] at hr43 e3 ⊢
  have HG4 := Lib.hid hg4
  have HE3 := Lib.hid e3
  have H3 := Lib.hid h3
  have HR43 := Lib.hid hr43
  have HR63 := Lib.hid hr63
  have HG3 := Lib.hid hg3
  obtain ⟨g', o', c', q1', -⟩ := h3.ex
  have F3 : Hid (W3.cell? ⟨gp, 3, none⟩ = some (.int .i64 many)) := q1'.cell (show 3 < 4 by omega)
  have Z3 : Hid (W3.frozen? ⟨gp, 3, none⟩ = false) := q1'.frozen 3
  obtain ⟨-, T1', -, -⟩ := ht53
  have hN4 : g4 ≠ gp := by have := HW.out; omega
  have hN6 : g6 ≠ gp := by have := HW.out; omega
  have hN46 : g4 ≠ g6 := by omega
  have hN64 : g6 ≠ g4 := by omega
  have HN4 := Lib.hid hN4
  have HN6 := Lib.hid hN6
  have HN46 := Lib.hid hN46
  have HN64 := Lib.hid hN64
  have HG4B : Hid (B ≤ g4 ∧ B ≤ g6) := by have := HW.out; unfold Hid; omega
  have HG4W : Hid (w.heap.size ≤ g4 ∧ w.heap.size ≤ g6) := by unfold Hid; omega
  obtain ⟨s, hs⟩ : ∃ s, s = tk.s := ⟨_, rfl⟩
  rw [← hs] at hs8 T1' ⊢
  have HS : Hid (s = (hd l).s) := by rw [← HT.out]; exact hs
  have T1 := Lib.hid T1'
  clear hg4 e3 h3 hr43 hr63 hg3 T1' hN4 hN6 hN46 hN64 hs q1'
  have hmm := @run_makeMap Try.prog
  rw [hmm]
  go_simp
  have hkb := HS.out ▸ hkb'
  have hku := HS.out ▸ hku'
  have hkf := HS.out ▸ hkf'
  clear hkb' hku' hkf'
  go_wp2_with (first
    | (refine wpList_ins rfl _ _ _ _ rfl 9 3 Try.underlying178 Try.underlying9 _ _ rfl hMC _ rfl _ rfl (by rfl) ?_; clear hMC t1 f3 z3; intro WC hMC; have hbC := chain3 hMA hMB hMC; have t1 := (hbC.cell (World.block_lt_of_cell? _ _ T1.out)).trans T1.out; have f3 := (hbC.cell (World.block_lt_of_cell? _ _ F3.out)).trans F3.out; have z3 := (hbC.frozen (World.block_lt_of_cell? _ _ F3.out)).trans Z3.out; clear hbC)
    | (refine wpList_ins rfl _ _ _ _ rfl 9 54 Try.underlying177 Try.underlying9 _ _ rfl hMB _ rfl _ rfl (by rfl) ?_; clear hMB; intro WB hMB)
    | (refine wpList_ins rfl _ _ _ _ rfl 9 54 Try.underlying177 Try.underlying9 _ _ rfl hMA _ rfl _ rfl (by rfl) ?_; clear hMA; intro WA hMA)
    | ((have _x := hMB); refine wpList_ins rfl _ _ _ _ rfl 9 3 Try.underlying178 Try.underlying9 _ _ rfl (MB.made _) _ rfl _ rfl (by rfl) ?_; clear _x; intro WC hMC; have hbC := chain3 hMA hMB hMC; have t1 := (hbC.cell (World.block_lt_of_cell? _ _ T1.out)).trans T1.out; have f3 := (hbC.cell (World.block_lt_of_cell? _ _ F3.out)).trans F3.out; have z3 := (hbC.frozen (World.block_lt_of_cell? _ _ F3.out)).trans Z3.out; clear hbC)
    | ((have _x := hMA); refine wpList_ins rfl _ _ _ _ rfl 9 54 Try.underlying177 Try.underlying9 _ _ rfl (MB.made _) _ rfl _ rfl (by rfl) ?_; clear _x; intro WB hMB)
    | (refine wpList_ins rfl _ _ _ _ rfl 9 54 Try.underlying177 Try.underlying9 _ _ rfl (MB.made _) _ rfl _ rfl (by rfl) ?_; intro WA hMA)
    | (refine wpList_lookN rfl _ _ _ rfl 9 54 .u8 Try.underlying177 Try.underlying9 zero_op _ bareL rfl (((hMA.to (by kernel_rfl)).below hMB.be).below hMC.be) (by decide) s hs8 rfl ?_; rw [show lookN bareL s = _ from hkb]; dsimp only [Option.getD_some, Option.isSome_some, Option.getD_none, Option.isSome_none])
    | (refine wpList_lookN rfl _ _ _ rfl 9 54 .u8 Try.underlying177 Try.underlying9 zero_op _ unaL rfl ((hMB.to (by kernel_rfl)).below hMC.be) (by decide) s hs8 rfl ?_; rw [show lookN unaL s = _ from hku]; dsimp only [Option.getD_some, Option.isSome_some, Option.getD_none, Option.isSome_none])
    | (refine wpList_lookV (by rfl) _ _ _ rfl 9 3 .i64 Try.underlying178 Try.underlying9 zero_int _ firL rfl (hMC.to (by kernel_rfl)) (by decide) s hs8 rfl ?_; rw [show lookN firL s = _ from hkf]; dsimp only [Option.getD_some, Option.isSome_some, Option.getD_none, Option.isSome_none]))
  have hbC := chain3 hMA hMB hMC
  have h7 := H3.out.below hbC
  have r4 := below_row hbC HR43.out HR43.out.lt
  have r6 := below_row hbC HR63.out HR63.out.lt
  have gC := nil_grown HG3.out (grown_of_below hbC (some gp))
  clear hMA hMB hMC t1 f3 z3 hbC hmm hs8
  have h8 := h7.setM (m := m1) (by omega)
  have g8 := grown_set gC (.inl rfl) (p := ⟨gp, 3, none⟩) (.int .i64 (m1 : Nat))
  have hgs : WC.grownBy (WC.setCell ⟨gp, 3, none⟩ (.int .i64 (m1 : Nat))) (some gp) := grown_set (grown_refl _ _) (.inl rfl) _
  have r48 := grown_row hgs r4 HN4.out
  have r68 := grown_row hgs r6 HN6.out
  clear h7 gC r4 r6 hgs
  have HM := Lib.hid (pmay_any h8 ⟨#[104, 97, 108, 116]⟩ [104, 97, 108, 116] rfl (by decide) (by decide))
  have HHG := Lib.hid g8
  have HHR4 := Lib.hid r48
  have HHR6 := Lib.hid r68
  clear g8 r48 r68
  go_wp2_with fail
  refine HM.out.mono ?_
  rintro e W6 ⟨r, hr, rfl, ha, hgn⟩
  have ga := nil_grown HHG.out hgn
  have r4a := grown_row hgn HHR4.out HN4.out
  have r6a := grown_row hgn HHR6.out HN6.out
  clear HM HHG HHR4 HHR6
  have hrt : r = false := by rw [hr]; exact decide_eq_false (by rw [HSS.out]; decide)
  subst hrt
  rw [if_neg (by decide)] at ha
  clear h8 hr hgn
  have HM := Lib.hid (pmay_any ha ⟨#[114]⟩ [114] rfl (by decide) (by decide))
  have HHG := Lib.hid ga
  have HHR4 := Lib.hid r4a
  have HHR6 := Lib.hid r6a
  clear ga r4a r6a
  go_wp2_with fail
  refine HM.out.mono ?_
  rintro e W7 ⟨r, hr, rfl, hb, hgn⟩
  have gb := nil_grown HHG.out hgn
  have r4b := grown_row hgn HHR4.out HN4.out
  have r6b := grown_row hgn HHR6.out HN6.out
  clear HM HHG HHR4 HHR6
  have hrt : r = false := by rw [hr]; exact decide_eq_false (by rw [HSS.out]; decide)
  subst hrt
  rw [if_neg (by decide)] at hb
  clear ha hr hgn
  have HM := Lib.hid (pmay_any hb ⟨#[105, 102]⟩ [105, 102] rfl (by decide) (by decide))
  have HHG := Lib.hid gb
  have HHR4 := Lib.hid r4b
  have HHR6 := Lib.hid r6b
  clear gb r4b r6b
  go_wp2_with fail
  refine HM.out.mono ?_
  rintro e W8 ⟨r, hr, rfl, hc, hgn⟩
  have gc := nil_grown HHG.out hgn
  have r4c := grown_row hgn HHR4.out HN4.out
  have r6c := grown_row hgn HHR6.out HN6.out
  clear HM HHG HHR4 HHR6
  have hrt : r = true := by rw [hr]; exact decide_eq_true HSS.out
  subst hrt
  rw [if_pos rfl] at hc
  clear hb hr hgn
  have HM := Lib.hid (pcond_any hc)
  have HHG := Lib.hid gc
  have HHR4 := Lib.hid r4c
  have HHR6 := Lib.hid r6c
  clear gc r4c r6c
  go_wp2_with fail
  refine HM.out.mono ?_
  rintro e W9 ⟨⟨nt, ⟨co, cd, cs, cn⟩⟩, l1, b1, rfl, hd, hrc, hgn⟩
  have gd := nil_grown HHG.out hgn
  have r4d := grown_row hgn HHR4.out HN4.out
  have r6d := grown_row hgn HHR6.out HN6.out
  clear HM HHG HHR4 HHR6
  dsimp only [conC]
  have HRC := Lib.hid hrc
  clear hrc hgn hc
  have hgs := (grown_set (grown_set (grown_set (grown_set (grown_set (grown_set (grown_refl W9 (some g6)) (.inl rfl) (p := ⟨g6, 0, none⟩) (.int .u8 2)) (.inl rfl) (p := ⟨g6, 5, none⟩) (.bool nt)) (.inl rfl) (p := ⟨g6, 6, none⟩) (.int .u8 (co : Nat))) (.inl rfl) (p := ⟨g6, 7, none⟩) (.int .i64 cd)) (.inl rfl) (p := ⟨g6, 8, none⟩) (.int .i64 cs)) (.inl rfl) (p := ⟨g6, 9, none⟩) (.int .i64 cn))
  have hA := hd.kept (row := some g6) hgs (fun k e => by injection e with e; subst e; exact HG4B.out.2)
  have gA := (grown_set (grown_set (grown_set (grown_set (grown_set (grown_set gd (.inr HG4W.out.2) (p := ⟨g6, 0, none⟩) (.int .u8 2)) (.inr HG4W.out.2) (p := ⟨g6, 5, none⟩) (.bool nt)) (.inr HG4W.out.2) (p := ⟨g6, 6, none⟩) (.int .u8 (co : Nat))) (.inr HG4W.out.2) (p := ⟨g6, 7, none⟩) (.int .i64 cd)) (.inr HG4W.out.2) (p := ⟨g6, 8, none⟩) (.int .i64 cs)) (.inr HG4W.out.2) (p := ⟨g6, 9, none⟩) (.int .i64 cn))
  have r4A := grown_row hgs r4d HN46.out
  have r6A : World.rowIs (World.setCell (World.setCell (World.setCell (World.setCell (World.setCell (World.setCell W9 ⟨g6, 0, none⟩ (.int .u8 2)) ⟨g6, 5, none⟩ (.bool nt)) ⟨g6, 6, none⟩ (.int .u8 (co : Nat))) ⟨g6, 7, none⟩ (.int .i64 cd)) ⟨g6, 8, none⟩ (.int .i64 cs)) ⟨g6, 9, none⟩ (.int .i64 cn)) g6 60 13 (stF 2 i0 ⟨nt, ⟨co, cd, cs, cn⟩⟩ (.slice none 0 0) (.slice none 0 0) (tk.ln : Nat)) := st_setC ⟨nt, ⟨co, cd, cs, cn⟩⟩ (st_setK 2 r6d)
  have y0 := r6d.cell (show 0 < 13 by omega)
  have x0 := r6d.frozen 0
  have y5 := r6d.cell (show 5 < 13 by omega)
  have x5 := r6d.frozen 5
  have y6 := r6d.cell (show 6 < 13 by omega)
  have x6 := r6d.frozen 6
  have y7 := r6d.cell (show 7 < 13 by omega)
  have x7 := r6d.frozen 7
  have y8 := r6d.cell (show 8 < 13 by omega)
  have x8 := r6d.frozen 8
  have y9 := r6d.cell (show 9 < 13 by omega)
  have x9 := r6d.frozen 9
  dsimp only [stF, i0, c0] at y0 y5 y6 y7 y8 y9
  clear hd gd r4d r6d hgs
  have hlt : g6 < ((World.setCell (World.setCell (World.setCell (World.setCell (World.setCell (World.setCell W9 ⟨g6, 0, none⟩ (.int .u8 2)) ⟨g6, 5, none⟩ (.bool nt)) ⟨g6, 6, none⟩ (.int .u8 (co : Nat))) ⟨g6, 7, none⟩ (.int .i64 cd)) ⟨g6, 8, none⟩ (.int .i64 cs)) ⟨g6, 9, none⟩ (.int .i64 cn))).heap.size := r6A.lt
  have HM := Lib.hid (HBLK.out B gp ((World.setCell (World.setCell (World.setCell (World.setCell (World.setCell (World.setCell W9 ⟨g6, 0, none⟩ (.int .u8 2)) ⟨g6, 5, none⟩ (.bool nt)) ⟨g6, 6, none⟩ (.int .u8 (co : Nat))) ⟨g6, 7, none⟩ (.int .i64 cd)) ⟨g6, 8, none⟩ (.int .i64 cs)) ⟨g6, 9, none⟩ (.int .i64 cn))) l1 b1 m1 hA (fun _ => HM500.out))
  have HHG := Lib.hid gA
  have HHR4 := Lib.hid r4A
  have HHR6 := Lib.hid r6A
  clear gA r4A r6A
  go_wp2_with fail
  refine HM.out.mono ?_
  rintro e WD ⟨vb, bT, l2, b2, m2, rfl, htr, hB, hm2, hrb, hgn⟩
  have gB := nil_grown HHG.out hgn
  have r4B := grown_row hgn HHR4.out HN4.out
  have r6B := grown_row hgn HHR6.out HN6.out
  clear HM HHG HHR4 HHR6
  obtain ⟨Ab, cb, hv⟩ := htr.form
  subst hv
  have HTRB : Hid (Tr WD (fun k => g6 < k) _ bT) := htr.mono (fun k hk _ => Nat.lt_of_lt_of_le hlt hk)
  clear htr hlt hA
  clear y0 x0 y5 x5 y6 x6 y7 x7 y8 x8 y9 x9
  have HRB := Lib.hid hrb
  have HM2 := Lib.hid hm2
  clear hrb hm2 hgn
  have hgs := (grown_set (grown_refl WD (some g6)) (.inl rfl) (p := ⟨g6, 10, none⟩) (.slice Ab bT.len cb))
  have hC := hB.kept (row := some g6) hgs (fun k e => by injection e with e; subst e; exact HG4B.out.2)
  have gC := (grown_set gB (.inr HG4W.out.2) (p := ⟨g6, 10, none⟩) (.slice Ab bT.len cb))
  have r4C := grown_row hgs r4B HN46.out
  have r6C := st_setB (.slice Ab bT.len cb) r6B
  have y10 := r6B.cell (show 10 < 13 by omega)
  have x10 := r6B.frozen 10
  dsimp only [stF, i0, c0] at y10
  have htc := HTRB.out.grown hgs (fun k hk e => by injection e with e; have hk1 : g6 < k := hk; omega)
  clear hB gB r4B r6B hgs
  have HTC := Lib.hid htc
  clear htc HTRB
  have HM := Lib.hid (pmay_any hC ⟨#[101, 108, 115, 101]⟩ [101, 108, 115, 101] rfl (by decide) (by decide))
  have HHG := Lib.hid gC
  have HHR4 := Lib.hid r4C
  have HHR6 := Lib.hid r6C
  clear gC r4C r6C
  go_wp2_with fail
  refine HM.out.mono ?_
  rintro e WE ⟨r, hr, rfl, hD, hgn⟩
  have gD := nil_grown HHG.out hgn
  have r4D := grown_row hgn HHR4.out HN4.out
  have r6D := grown_row hgn HHR6.out HN6.out
  clear HM HHG HHR4 HHR6
  have HTD := Lib.hid (HTC.out.grown hgn (fun k hk e => by injection e with e; have hk1 : g6 < k := hk; have := HG4B.out.2; have := HW.out.2; omega))
  have HRE := Lib.hid hr
  clear hgn hr HTC hC y10 x10
  cases r with
  | false =>
    rw [if_neg (by decide)] at hD
    have H6 := Lib.hid hD
    have HG := Lib.hid gD
    have HR6 := Lib.hid r6D
    have HR4' := Lib.hid r4D
    have HTB := Lib.hid (HTD.out)
    have HTE := Lib.hid (Tr.nil WE (fun k => g6 < k))
    have a0 := r6D.cell (show 0 < 13 by omega)
    have b0 := r4D.cell (show 0 < 13 by omega)
    have z0 := r4D.frozen 0
    have a1 := r6D.cell (show 1 < 13 by omega)
    have b1 := r4D.cell (show 1 < 13 by omega)
    have z1 := r4D.frozen 1
    have a2 := r6D.cell (show 2 < 13 by omega)
    have b2 := r4D.cell (show 2 < 13 by omega)
    have z2 := r4D.frozen 2
    have a3 := r6D.cell (show 3 < 13 by omega)
    have b3 := r4D.cell (show 3 < 13 by omega)
    have z3 := r4D.frozen 3
    have a4 := r6D.cell (show 4 < 13 by omega)
    have b4 := r4D.cell (show 4 < 13 by omega)
    have z4 := r4D.frozen 4
    have a5 := r6D.cell (show 5 < 13 by omega)
    have b5 := r4D.cell (show 5 < 13 by omega)
    have z5 := r4D.frozen 5
    have a6 := r6D.cell (show 6 < 13 by omega)
    have b6 := r4D.cell (show 6 < 13 by omega)
    have z6 := r4D.frozen 6
    have a7 := r6D.cell (show 7 < 13 by omega)
    have b7 := r4D.cell (show 7 < 13 by omega)
    have z7 := r4D.frozen 7
    have a8 := r6D.cell (show 8 < 13 by omega)
    have b8 := r4D.cell (show 8 < 13 by omega)
    have z8 := r4D.frozen 8
    have a9 := r6D.cell (show 9 < 13 by omega)
    have b9 := r4D.cell (show 9 < 13 by omega)
    have z9 := r4D.frozen 9
    have a10 := r6D.cell (show 10 < 13 by omega)
    have b10 := r4D.cell (show 10 < 13 by omega)
    have z10 := r4D.frozen 10
    have a11 := r6D.cell (show 11 < 13 by omega)
    have b11 := r4D.cell (show 11 < 13 by omega)
    have z11 := r4D.frozen 11
    have a12 := r6D.cell (show 12 < 13 by omega)
    have b12 := r4D.cell (show 12 < 13 by omega)
    have z12 := r4D.frozen 12
    dsimp only [stF, i0, c0] at a0 b0 a1 b1 a2 b2 a3 b3 a4 b4 a5 b5 a6 b6 a7 b7 a8 b8 a9 b9 a10 b10 a11 b11 a12 b12
    clear hD gD r6D r4D
    go_wp2_with fail
    (try simp only [Exit.inBlock, Exit.then])
    have hx0 := (grown_set (grown_set (grown_set (grown_set (grown_set (grown_set (grown_set (grown_set (grown_set (grown_set (grown_set (grown_set (grown_set (grown_refl WE (some g4)) (.inl rfl) (p := ⟨g4, 0, none⟩) (.int .u8 (2 : Nat))) (.inl rfl) (p := ⟨g4, 1, none⟩) (.int .u8 (0 : Nat))) (.inl rfl) (p := ⟨g4, 2, none⟩) (.int .i64 0)) (.inl rfl) (p := ⟨g4, 3, none⟩) (.int .i64 0)) (.inl rfl) (p := ⟨g4, 4, none⟩) (.int .i64 0)) (.inl rfl) (p := ⟨g4, 5, none⟩) (.bool nt)) (.inl rfl) (p := ⟨g4, 6, none⟩) (.int .u8 (co : Nat))) (.inl rfl) (p := ⟨g4, 7, none⟩) (.int .i64 cd)) (.inl rfl) (p := ⟨g4, 8, none⟩) (.int .i64 cs)) (.inl rfl) (p := ⟨g4, 9, none⟩) (.int .i64 cn)) (.inl rfl) (p := ⟨g4, 10, none⟩) (.slice Ab bT.len cb)) (.inl rfl) (p := ⟨g4, 11, none⟩) (.slice none 0 0)) (.inl rfl) (p := ⟨g4, 12, none⟩) (.int .i64 (tk.ln : Nat)))
    have hx1 := st_all 2 ⟨0, 0, 0, 0⟩ ⟨nt, ⟨co, cd, cs, cn⟩⟩ (.slice Ab bT.len cb) (.slice none 0 0) ((tk.ln : Nat)) HR4'.out
    have hx2 := H6.out.kept (row := some g4) hx0 (fun k e => by injection e with e; subst e; exact HG4B.out.1)
    have hx3 := (grown_set (grown_set (grown_set (grown_set (grown_set (grown_set (grown_set (grown_set (grown_set (grown_set (grown_set (grown_set (grown_set HG.out (.inr HG4W.out.1) (p := ⟨g4, 0, none⟩) (.int .u8 (2 : Nat))) (.inr HG4W.out.1) (p := ⟨g4, 1, none⟩) (.int .u8 (0 : Nat))) (.inr HG4W.out.1) (p := ⟨g4, 2, none⟩) (.int .i64 0)) (.inr HG4W.out.1) (p := ⟨g4, 3, none⟩) (.int .i64 0)) (.inr HG4W.out.1) (p := ⟨g4, 4, none⟩) (.int .i64 0)) (.inr HG4W.out.1) (p := ⟨g4, 5, none⟩) (.bool nt)) (.inr HG4W.out.1) (p := ⟨g4, 6, none⟩) (.int .u8 (co : Nat))) (.inr HG4W.out.1) (p := ⟨g4, 7, none⟩) (.int .i64 cd)) (.inr HG4W.out.1) (p := ⟨g4, 8, none⟩) (.int .i64 cs)) (.inr HG4W.out.1) (p := ⟨g4, 9, none⟩) (.int .i64 cn)) (.inr HG4W.out.1) (p := ⟨g4, 10, none⟩) (.slice Ab bT.len cb)) (.inr HG4W.out.1) (p := ⟨g4, 11, none⟩) (.slice none 0 0)) (.inr HG4W.out.1) (p := ⟨g4, 12, none⟩) (.int .i64 (tk.ln : Nat)))
    have hx4 := HTB.out.grown hx0 (fun k hk e => by injection e with e; have := HE3.out; have hk' : g6 < k := hk; omega)
    have hx5 := HTE.out.grown hx0 (fun k hk e => by injection e with e; have := HE3.out; have hk' : g6 < k := hk; omega)
    have hx4 := hx4.mono (S' := fun k => w.heap.size ≤ k) (fun k hk _ => by have := HG4.out; have := HE3.out; have hk' : g6 < k := hk; omega)
    have hx5 := hx5.mono (S' := fun k => w.heap.size ≤ k) (fun k hk _ => by have := HG4.out; have := HE3.out; have hk' : g6 < k := hk; omega)
    clear hx0
    dsimp only at hx1 hx2 hx3 hx4 hx5 ⊢
    generalize (World.setCell (World.setCell (World.setCell (World.setCell (World.setCell (World.setCell (World.setCell (World.setCell (World.setCell (World.setCell (World.setCell (World.setCell (World.setCell WE ⟨g4, 0, none⟩ (.int .u8 (2 : Nat))) ⟨g4, 1, none⟩ (.int .u8 (0 : Nat))) ⟨g4, 2, none⟩ (.int .i64 0)) ⟨g4, 3, none⟩ (.int .i64 0)) ⟨g4, 4, none⟩ (.int .i64 0)) ⟨g4, 5, none⟩ (.bool nt)) ⟨g4, 6, none⟩ (.int .u8 (co : Nat))) ⟨g4, 7, none⟩ (.int .i64 cd)) ⟨g4, 8, none⟩ (.int .i64 cs)) ⟨g4, 9, none⟩ (.int .i64 cn)) ⟨g4, 10, none⟩ (.slice Ab bT.len cb)) ⟨g4, 11, none⟩ (.slice none 0 0)) ⟨g4, 12, none⟩ (.int .i64 (tk.ln : Nat))) = W99 at hx1 hx2 hx3 hx4 hx5 ⊢
    refine bodyPost_ret (st_results rfl _ _ g4 rfl hx1) rfl ?_
    exact ⟨⟨2, ⟨0, 0, 0, 0⟩, ⟨nt, ⟨co, cd, cs, cn⟩⟩, bT, .nil, (tk.ln : Nat)⟩, .slice Ab bT.len cb, .slice none 0 0, l2, _, m2, rfl, hx4, hx5, hx2, HM2.out, by rw [HT.out]; exact if_no (by rw [HM1.out]; exact st_if HL.out HKB.out HKU.out HKF.out HSS.out) HRC.out HRB.out HRE.out, hx3⟩
  | true =>
    rw [if_pos rfl] at hD
    have hlt : g6 < (WE).heap.size := r6D.lt
    have HM := Lib.hid (HBLK.out B gp (WE) l2.tail b2 m2 hD HM2.out)
    have HHG := Lib.hid gD
    have HHR4 := Lib.hid r4D
    have HHR6 := Lib.hid r6D
    clear gD r4D r6D
    go_wp2_with fail
    refine HM.out.mono ?_
    rintro e WF ⟨ve, eT, l3, b3, m3, rfl, htr, hE, hm3, hre, hgn⟩
    have gE := nil_grown HHG.out hgn
    have r4E := grown_row hgn HHR4.out HN4.out
    have r6E := grown_row hgn HHR6.out HN6.out
    clear HM HHG HHR4 HHR6
    obtain ⟨Ae, ce, hv⟩ := htr.form
    subst hv
    have HTRE : Hid (Tr WF (fun k => g6 < k) _ eT) := htr.mono (fun k hk _ => Nat.lt_of_lt_of_le hlt hk)
    clear htr hlt hD
    have HTF := Lib.hid (HTD.out.grown hgn (fun k hk e => by injection e with e; have hk1 : g6 < k := hk; have := HG4B.out.2; have := HW.out.2; omega))
    have HRF := Lib.hid hre
    have HM3 := Lib.hid hm3
    clear hre hm3 hgn HTD
    have hgs := (grown_set (grown_refl WF (some g6)) (.inl rfl) (p := ⟨g6, 11, none⟩) (.slice Ae eT.len ce))
    have hF := hE.kept (row := some g6) hgs (fun k e => by injection e with e; subst e; exact HG4B.out.2)
    have gF := (grown_set gE (.inr HG4W.out.2) (p := ⟨g6, 11, none⟩) (.slice Ae eT.len ce))
    have r4F := grown_row hgs r4E HN46.out
    have r6F := st_setE (.slice Ae eT.len ce) r6E
    have y11 := r6E.cell (show 11 < 13 by omega)
    have x11 := r6E.frozen 11
    dsimp only [stF, i0, c0] at y11
    have htb := HTF.out.grown hgs (fun k hk e => by injection e with e; have hk1 : g6 < k := hk; omega)
    have hte := HTRE.out.grown hgs (fun k hk e => by injection e with e; have hk1 : g6 < k := hk; omega)
    clear hE gE r4E r6E hgs
    have HTB9 := Lib.hid htb
    have HTE9 := Lib.hid hte
    clear htb hte HTF HTRE
    have H6 := Lib.hid hF
    have HG := Lib.hid gF
    have HR6 := Lib.hid r6F
    have HR4' := Lib.hid r4F
    have HTB := Lib.hid (HTB9.out)
    have HTE := Lib.hid (HTE9.out)
    have a0 := r6F.cell (show 0 < 13 by omega)
    have b0 := r4F.cell (show 0 < 13 by omega)
    have z0 := r4F.frozen 0
    have a1 := r6F.cell (show 1 < 13 by omega)
    have b1 := r4F.cell (show 1 < 13 by omega)
    have z1 := r4F.frozen 1
    have a2 := r6F.cell (show 2 < 13 by omega)
    have b2 := r4F.cell (show 2 < 13 by omega)
    have z2 := r4F.frozen 2
    have a3 := r6F.cell (show 3 < 13 by omega)
    have b3 := r4F.cell (show 3 < 13 by omega)
    have z3 := r4F.frozen 3
    have a4 := r6F.cell (show 4 < 13 by omega)
    have b4 := r4F.cell (show 4 < 13 by omega)
    have z4 := r4F.frozen 4
    have a5 := r6F.cell (show 5 < 13 by omega)
    have b5 := r4F.cell (show 5 < 13 by omega)
    have z5 := r4F.frozen 5
    have a6 := r6F.cell (show 6 < 13 by omega)
    have b6 := r4F.cell (show 6 < 13 by omega)
    have z6 := r4F.frozen 6
    have a7 := r6F.cell (show 7 < 13 by omega)
    have b7 := r4F.cell (show 7 < 13 by omega)
    have z7 := r4F.frozen 7
    have a8 := r6F.cell (show 8 < 13 by omega)
    have b8 := r4F.cell (show 8 < 13 by omega)
    have z8 := r4F.frozen 8
    have a9 := r6F.cell (show 9 < 13 by omega)
    have b9 := r4F.cell (show 9 < 13 by omega)
    have z9 := r4F.frozen 9
    have a10 := r6F.cell (show 10 < 13 by omega)
    have b10 := r4F.cell (show 10 < 13 by omega)
    have z10 := r4F.frozen 10
    have a11 := r6F.cell (show 11 < 13 by omega)
    have b11 := r4F.cell (show 11 < 13 by omega)
    have z11 := r4F.frozen 11
    have a12 := r6F.cell (show 12 < 13 by omega)
    have b12 := r4F.cell (show 12 < 13 by omega)
    have z12 := r4F.frozen 12
    dsimp only [stF, i0, c0] at a0 b0 a1 b1 a2 b2 a3 b3 a4 b4 a5 b5 a6 b6 a7 b7 a8 b8 a9 b9 a10 b10 a11 b11 a12 b12
    clear hF gF r6F r4F
    go_wp2_with fail
    (try simp only [Exit.inBlock, Exit.then])
    have hx0 := (grown_set (grown_set (grown_set (grown_set (grown_set (grown_set (grown_set (grown_set (grown_set (grown_set (grown_set (grown_set (grown_set (grown_refl (World.setCell WF ⟨g6, 11, none⟩ (.slice Ae eT.len ce)) (some g4)) (.inl rfl) (p := ⟨g4, 0, none⟩) (.int .u8 (2 : Nat))) (.inl rfl) (p := ⟨g4, 1, none⟩) (.int .u8 (0 : Nat))) (.inl rfl) (p := ⟨g4, 2, none⟩) (.int .i64 0)) (.inl rfl) (p := ⟨g4, 3, none⟩) (.int .i64 0)) (.inl rfl) (p := ⟨g4, 4, none⟩) (.int .i64 0)) (.inl rfl) (p := ⟨g4, 5, none⟩) (.bool nt)) (.inl rfl) (p := ⟨g4, 6, none⟩) (.int .u8 (co : Nat))) (.inl rfl) (p := ⟨g4, 7, none⟩) (.int .i64 cd)) (.inl rfl) (p := ⟨g4, 8, none⟩) (.int .i64 cs)) (.inl rfl) (p := ⟨g4, 9, none⟩) (.int .i64 cn)) (.inl rfl) (p := ⟨g4, 10, none⟩) (.slice Ab bT.len cb)) (.inl rfl) (p := ⟨g4, 11, none⟩) (.slice Ae eT.len ce)) (.inl rfl) (p := ⟨g4, 12, none⟩) (.int .i64 (tk.ln : Nat)))
    have hx1 := st_all 2 ⟨0, 0, 0, 0⟩ ⟨nt, ⟨co, cd, cs, cn⟩⟩ (.slice Ab bT.len cb) (.slice Ae eT.len ce) ((tk.ln : Nat)) HR4'.out
    have hx2 := H6.out.kept (row := some g4) hx0 (fun k e => by injection e with e; subst e; exact HG4B.out.1)
    have hx3 := (grown_set (grown_set (grown_set (grown_set (grown_set (grown_set (grown_set (grown_set (grown_set (grown_set (grown_set (grown_set (grown_set HG.out (.inr HG4W.out.1) (p := ⟨g4, 0, none⟩) (.int .u8 (2 : Nat))) (.inr HG4W.out.1) (p := ⟨g4, 1, none⟩) (.int .u8 (0 : Nat))) (.inr HG4W.out.1) (p := ⟨g4, 2, none⟩) (.int .i64 0)) (.inr HG4W.out.1) (p := ⟨g4, 3, none⟩) (.int .i64 0)) (.inr HG4W.out.1) (p := ⟨g4, 4, none⟩) (.int .i64 0)) (.inr HG4W.out.1) (p := ⟨g4, 5, none⟩) (.bool nt)) (.inr HG4W.out.1) (p := ⟨g4, 6, none⟩) (.int .u8 (co : Nat))) (.inr HG4W.out.1) (p := ⟨g4, 7, none⟩) (.int .i64 cd)) (.inr HG4W.out.1) (p := ⟨g4, 8, none⟩) (.int .i64 cs)) (.inr HG4W.out.1) (p := ⟨g4, 9, none⟩) (.int .i64 cn)) (.inr HG4W.out.1) (p := ⟨g4, 10, none⟩) (.slice Ab bT.len cb)) (.inr HG4W.out.1) (p := ⟨g4, 11, none⟩) (.slice Ae eT.len ce)) (.inr HG4W.out.1) (p := ⟨g4, 12, none⟩) (.int .i64 (tk.ln : Nat)))
    have hx4 := HTB.out.grown hx0 (fun k hk e => by injection e with e; have := HE3.out; have hk' : g6 < k := hk; omega)
    have hx5 := HTE.out.grown hx0 (fun k hk e => by injection e with e; have := HE3.out; have hk' : g6 < k := hk; omega)
    have hx4 := hx4.mono (S' := fun k => w.heap.size ≤ k) (fun k hk _ => by have := HG4.out; have := HE3.out; have hk' : g6 < k := hk; omega)
    have hx5 := hx5.mono (S' := fun k => w.heap.size ≤ k) (fun k hk _ => by have := HG4.out; have := HE3.out; have hk' : g6 < k := hk; omega)
    clear hx0
    dsimp only at hx1 hx2 hx3 hx4 hx5 ⊢
    generalize (World.setCell (World.setCell (World.setCell (World.setCell (World.setCell (World.setCell (World.setCell (World.setCell (World.setCell (World.setCell (World.setCell (World.setCell (World.setCell (World.setCell WF ⟨g6, 11, none⟩ (.slice Ae eT.len ce)) ⟨g4, 0, none⟩ (.int .u8 (2 : Nat))) ⟨g4, 1, none⟩ (.int .u8 (0 : Nat))) ⟨g4, 2, none⟩ (.int .i64 0)) ⟨g4, 3, none⟩ (.int .i64 0)) ⟨g4, 4, none⟩ (.int .i64 0)) ⟨g4, 5, none⟩ (.bool nt)) ⟨g4, 6, none⟩ (.int .u8 (co : Nat))) ⟨g4, 7, none⟩ (.int .i64 cd)) ⟨g4, 8, none⟩ (.int .i64 cs)) ⟨g4, 9, none⟩ (.int .i64 cn)) ⟨g4, 10, none⟩ (.slice Ab bT.len cb)) ⟨g4, 11, none⟩ (.slice Ae eT.len ce)) ⟨g4, 12, none⟩ (.int .i64 (tk.ln : Nat))) = W99 at hx1 hx2 hx3 hx4 hx5 ⊢
    refine bodyPost_ret (st_results rfl _ _ g4 rfl hx1) rfl ?_
    exact ⟨⟨2, ⟨0, 0, 0, 0⟩, ⟨nt, ⟨co, cd, cs, cn⟩⟩, bT, eT, (tk.ln : Nat)⟩, .slice Ab bT.len cb, .slice Ae eT.len ce, l3, _, m3, rfl, hx4, hx5, hx2, HM3.out, by rw [HT.out]; exact if_yes (by rw [HM1.out]; exact st_if HL.out HKB.out HKU.out HKF.out HSS.out) HRC.out HRB.out HRE.out HRF.out, hx3⟩
/-- Where no fault is told at the end, there was none ahead. -/
theorem none_back {α β : Type} {f : List Tok → Res (α × List Tok)} {g : List Tok → Res (β × List Tok)} {x : α} {y : β} {l1 l2 l3 : List Tok} {b1 b2 : Option Flt} (h1 : Rel f l1 b1 x l2 b2) (h2 : Rel g l2 b2 y l3 none) : b1 = none := by
  cases b1 with
  | none => rfl
  | some e =>
    unfold Rel at h1 h2
    simp only at h1
    subst h1
    cases h2
set_option maxRecDepth 100000 in
set_option maxHeartbeats 40000000 in
theorem pstmt_do (dp : Nat) (hd20 : dp ≤ 20) (blk : Blk) (hblk : BlkC (dp + 1) blk) (h : PS B w gp l none many) (hm : many < 500) (hkb' : look bareL (hd l).s = none) (hku' : look unaL (hd l).s = none) (hkf' : look firL (hd l).s = some 1) (hss : (hd l).s = [100, 111]) :
    Calls Try.prog 95 #[.pointer (some ⟨gp, 0, none⟩), .int .i64 dp] w (StPost (stmt false blk) B gp w l many) := by
  have HKB := Lib.hid hkb'
  have HKU := Lib.hid hku'
  have HKF := Lib.hid hkf'
  have HSS := Lib.hid hss
  clear hss
  obtain ⟨d1, hd1⟩ : ∃ d1, d1 = dp + 1 := ⟨_, rfl⟩
  have hwd : IntKind.i64.wrap ((dp : Int) + 1) = (d1 : Int) := by rw [IntKind.wrap_i64]; omega; all_goals omega
  rw [← hd1] at hblk
  have HBLK := Lib.hid hblk
  clear hblk hd1
  obtain ⟨m1, hm1⟩ : ∃ m1, m1 = many + 1 := ⟨_, rfl⟩
  have hw1 : IntKind.i64.wrap ((many : Int) + 1) = (m1 : Int) := by rw [IntKind.wrap_i64]; omega; all_goals omega
  have hm501 : m1 ≤ 501 := by omega
  have HM1 := Lib.hid hm1
  have HM500 : Hid (m1 ≤ 500) := by unfold Hid; omega
  have htest : ¬ (500 : Int) < m1 := by omega
  have htest2 : ¬ (20 : Int) < dp := by omega
  have HL : Hid (¬ (500 < many + 1 ∨ false = true)) := by unfold Hid; simp; omega
  clear hm hd20 hm1
  have hb1 : Below w.heap.size w (w.alloc (.cells (stA 0 i0 c0 (.slice none 0 0) (.slice none 0 0) 0) 60)) := (Below.refl _ _).alloc (Nat.le_refl _) _
  have h1 := h.below hb1
  have hr4 := st_row (heap_alloc_new w (.cells (stA 0 i0 c0 (.slice none 0 0) (.slice none 0 0) 0) 60))
  obtain ⟨g, o, c, q1, q2, q3, q4, q5, q6⟩ := h1.ex
  obtain ⟨t0, t1, t2, t3⟩ := q6.head h1.tl
  have f0 := q1.cell (show 0 < 4 by omega)
  dsimp only [psF] at f0
  have hl : 0 < l.length := List.length_pos_iff.2 h.tl.ne
  have hlI : (0 : Int) < l.length := by omega
  obtain ⟨tk, htk⟩ : ∃ tk, tk = hd l := ⟨_, rfl⟩
  rw [← htk] at t0 t1 t2 t3
  have hs8 : B8 tk.s := by rw [htk]; exact h.tl.hd_ok.1
  have HW := Lib.hid (And.intro h.bw h.bp)
  have H1 := Lib.hid h1
  have HB1 := Lib.hid hb1
  have HR4 := Lib.hid hr4
  have HT := Lib.hid htk
  clear h htk q1 q6 h1 hb1 hr4
  rw [show stA 0 i0 c0 (.slice none 0 0) (.slice none 0 0) 0 = #[.int .u8 0, .int .u8 0, .int .i64 0, .int .i64 0, .int .i64 0, .bool false, .int .u8 0, .int .i64 0, .int .i64 0, .int .i64 0, .slice none 0 0, .slice none 0 0, .int .i64 0] from rfl] at f0 t0 t1 t2 t3
  go_enter Try.func95, Try.ntmps95
  go_wp2_with fail
  have h1 := H1.out
  have hb1 := HB1.out
  have hr4 := HR4.out
  clear H1 HB1 HR4 f0 t0 t1 t2 t3
  rw [show stA 0 i0 c0 (.slice none 0 0) (.slice none 0 0) 0 = #[.int .u8 0, .int .u8 0, .int .i64 0, .int .i64 0, .int .i64 0, .bool false, .int .u8 0, .int .i64 0, .int .i64 0, .int .i64 0, .slice none 0 0, .slice none 0 0, .int .i64 0] from rfl] at h1 hb1 hr4
  have e1 : (w.alloc (.cells #[.int .u8 0, .int .u8 0, .int .i64 0, .int .i64 0, .int .i64 0, .bool false, .int .u8 0, .int .i64 0, .int .i64 0, .int .i64 0, .slice none 0 0, .slice none 0 0, .int .i64 0] 60)).heap.size = w.heap.size + 1 := World.size_alloc _ _
  generalize w.alloc (.cells #[.int .u8 0, .int .u8 0, .int .i64 0, .int .i64 0, .int .i64 0, .bool false, .int .u8 0, .int .i64 0, .int .i64 0, .int .i64 0, .slice none 0 0, .slice none 0 0, .int .i64 0] 60) = W1 at *
  have ht5 := al_four W1 tk
  have hb2 : Below W1.heap.size W1 (W1.alloc (.cells #[.int .u8 tk.k, .string (mkS tk.s), .int .i64 tk.n, .int .i64 tk.ln] 111)) := (Below.refl _ _).alloc (Nat.le_refl _) _
  have h2 := h1.below hb2
  have hr42 := below_row hb2 hr4 hr4.lt
  have e2 : (W1.alloc (.cells #[.int .u8 tk.k, .string (mkS tk.s), .int .i64 tk.n, .int .i64 tk.ln] 111)).heap.size = W1.heap.size + 1 := World.size_alloc _ _
  generalize W1.alloc (.cells #[.int .u8 tk.k, .string (mkS tk.s), .int .i64 tk.n, .int .i64 tk.ln] 111) = W2 at *
  have hb3 : Below W2.heap.size W2 (W2.alloc (.cells #[.int .u8 1, .int .u8 0, .int .i64 0, .int .i64 0, .int .i64 0, .bool false, .int .u8 0, .int .i64 0, .int .i64 0, .int .i64 0, .slice none 0 0, .slice none 0 0, .int .i64 tk.ln] 60)) := (Below.refl _ _).alloc (Nat.le_refl _) _
  have h3 := h2.below hb3
  have hr43 := below_row hb3 hr42 hr42.lt
  have ht53 := ht5.keep (hb3.block W1.heap.size (by omega))
  have hr63 := st_row (k := 1) (i := i0) (c := c0) (vb := .slice none 0 0) (ve := .slice none 0 0) (ln := tk.ln) (heap_alloc_new W2 (.cells #[.int .u8 1, .int .u8 0, .int .i64 0, .int .i64 0, .int .i64 0, .bool false, .int .u8 0, .int .i64 0, .int .i64 0, .int .i64 0, .slice none 0 0, .slice none 0 0, .int .i64 tk.ln] 60))
  have hg3 := grown_of_below ((hb1.trans (hb2.mono hb1.size)).trans (hb3.mono (Nat.le_trans hb1.size hb2.size))) (some gp)
  have e3 : w.heap.size < W2.heap.size ∧ w.heap.size + 2 = W2.heap.size ∧ w.heap.size + 1 = W1.heap.size := by omega
  generalize W2.alloc (.cells #[.int .u8 1, .int .u8 0, .int .i64 0, .int .i64 0, .int .i64 0, .bool false, .int .u8 0, .int .i64 0, .int .i64 0, .int .i64 0, .slice none 0 0, .slice none 0 0, .int .i64 tk.ln] 60) = W3 at *
  rw [show w.heap.size + 1 + 1 = W2.heap.size by omega, show w.heap.size + 1 = W1.heap.size by omega]
  clear hb1 hb2 hb3 hr4 hr42 h1 h2 ht5 e1 e2
  generalize W1.heap.size = g5 at *
  generalize W2.heap.size = g6 at *
  clear W1 W2
  obtain ⟨g4, hg4⟩ : ∃ g4, g4 = w.heap.size := ⟨_, rfl⟩
  rw [← hg4] at hr43 e3 ⊢
  have HG4 := Lib.hid hg4
  have HE3 := Lib.hid e3
  have H3 := Lib.hid h3
  have HR43 := Lib.hid hr43
  have HR63 := Lib.hid hr63
  have HG3 := Lib.hid hg3
  obtain ⟨g', o', c', q1', -⟩ := h3.ex
  have F3 : Hid (W3.cell? ⟨gp, 3, none⟩ = some (.int .i64 many)) := q1'.cell (show 3 < 4 by omega)
  have Z3 : Hid (W3.frozen? ⟨gp, 3, none⟩ = false) := q1'.frozen 3
  obtain ⟨-, T1', -, -⟩ := ht53
  have hN4 : g4 ≠ gp := by have := HW.out; omega
  have hN6 : g6 ≠ gp := by have := HW.out; omega
  have hN46 : g4 ≠ g6 := by omega
  have hN64 : g6 ≠ g4 := by omega
  have HN4 := Lib.hid hN4
  have HN6 := Lib.hid hN6
  have HN46 := Lib.hid hN46
  have HN64 := Lib.hid hN64
  have HG4B : Hid (B ≤ g4 ∧ B ≤ g6) := by have := HW.out; unfold Hid; omega
  have HG4W : Hid (w.heap.size ≤ g4 ∧ w.heap.size ≤ g6) := by unfold Hid; omega
  obtain ⟨s, hs⟩ : ∃ s, s = tk.s := ⟨_, rfl⟩
  rw [← hs] at hs8 T1' ⊢
  have HS : Hid (s = (hd l).s) := by rw [← HT.out]; exact hs
  have T1 := Lib.hid T1'
  clear hg4 e3 h3 hr43 hr63 hg3 T1' hN4 hN6 hN46 hN64 hs q1'
  have hmm := @run_makeMap Try.prog
  rw [hmm]
  go_simp
  have hkb := HS.out ▸ hkb'
  have hku := HS.out ▸ hku'
  have hkf := HS.out ▸ hkf'
  clear hkb' hku' hkf'
  go_wp2_with (first
    | (refine wpList_ins rfl _ _ _ _ rfl 9 3 Try.underlying178 Try.underlying9 _ _ rfl hMC _ rfl _ rfl (by rfl) ?_; clear hMC t1 f3 z3; intro WC hMC; have hbC := chain3 hMA hMB hMC; have t1 := (hbC.cell (World.block_lt_of_cell? _ _ T1.out)).trans T1.out; have f3 := (hbC.cell (World.block_lt_of_cell? _ _ F3.out)).trans F3.out; have z3 := (hbC.frozen (World.block_lt_of_cell? _ _ F3.out)).trans Z3.out; clear hbC)
    | (refine wpList_ins rfl _ _ _ _ rfl 9 54 Try.underlying177 Try.underlying9 _ _ rfl hMB _ rfl _ rfl (by rfl) ?_; clear hMB; intro WB hMB)
    | (refine wpList_ins rfl _ _ _ _ rfl 9 54 Try.underlying177 Try.underlying9 _ _ rfl hMA _ rfl _ rfl (by rfl) ?_; clear hMA; intro WA hMA)
    | ((have _x := hMB); refine wpList_ins rfl _ _ _ _ rfl 9 3 Try.underlying178 Try.underlying9 _ _ rfl (MB.made _) _ rfl _ rfl (by rfl) ?_; clear _x; intro WC hMC; have hbC := chain3 hMA hMB hMC; have t1 := (hbC.cell (World.block_lt_of_cell? _ _ T1.out)).trans T1.out; have f3 := (hbC.cell (World.block_lt_of_cell? _ _ F3.out)).trans F3.out; have z3 := (hbC.frozen (World.block_lt_of_cell? _ _ F3.out)).trans Z3.out; clear hbC)
    | ((have _x := hMA); refine wpList_ins rfl _ _ _ _ rfl 9 54 Try.underlying177 Try.underlying9 _ _ rfl (MB.made _) _ rfl _ rfl (by rfl) ?_; clear _x; intro WB hMB)
    | (refine wpList_ins rfl _ _ _ _ rfl 9 54 Try.underlying177 Try.underlying9 _ _ rfl (MB.made _) _ rfl _ rfl (by rfl) ?_; intro WA hMA)
    | (refine wpList_lookN rfl _ _ _ rfl 9 54 .u8 Try.underlying177 Try.underlying9 zero_op _ bareL rfl (((hMA.to (by kernel_rfl)).below hMB.be).below hMC.be) (by decide) s hs8 rfl ?_; rw [show lookN bareL s = _ from hkb]; dsimp only [Option.getD_some, Option.isSome_some, Option.getD_none, Option.isSome_none])
    | (refine wpList_lookN rfl _ _ _ rfl 9 54 .u8 Try.underlying177 Try.underlying9 zero_op _ unaL rfl ((hMB.to (by kernel_rfl)).below hMC.be) (by decide) s hs8 rfl ?_; rw [show lookN unaL s = _ from hku]; dsimp only [Option.getD_some, Option.isSome_some, Option.getD_none, Option.isSome_none])
    | (refine wpList_lookV (by rfl) _ _ _ rfl 9 3 .i64 Try.underlying178 Try.underlying9 zero_int _ firL rfl (hMC.to (by kernel_rfl)) (by decide) s hs8 rfl ?_; rw [show lookN firL s = _ from hkf]; dsimp only [Option.getD_some, Option.isSome_some, Option.getD_none, Option.isSome_none]))
  have hbC := chain3 hMA hMB hMC
  have h7 := H3.out.below hbC
  have r4 := below_row hbC HR43.out HR43.out.lt
  have r6 := below_row hbC HR63.out HR63.out.lt
  have gC := nil_grown HG3.out (grown_of_below hbC (some gp))
  clear hMA hMB hMC t1 f3 z3 hbC hmm hs8
  have h8 := h7.setM (m := m1) (by omega)
  have g8 := grown_set gC (.inl rfl) (p := ⟨gp, 3, none⟩) (.int .i64 (m1 : Nat))
  have hgs : WC.grownBy (WC.setCell ⟨gp, 3, none⟩ (.int .i64 (m1 : Nat))) (some gp) := grown_set (grown_refl _ _) (.inl rfl) _
  have r48 := grown_row hgs r4 HN4.out
  have r68 := grown_row hgs r6 HN6.out
  clear h7 gC r4 r6 hgs
  have HM := Lib.hid (pmay_any h8 ⟨#[104, 97, 108, 116]⟩ [104, 97, 108, 116] rfl (by decide) (by decide))
  have HHG := Lib.hid g8
  have HHR4 := Lib.hid r48
  have HHR6 := Lib.hid r68
  clear g8 r48 r68
  go_wp2_with fail
  refine HM.out.mono ?_
  rintro e W6 ⟨r, hr, rfl, ha, hgn⟩
  have ga := nil_grown HHG.out hgn
  have r4a := grown_row hgn HHR4.out HN4.out
  have r6a := grown_row hgn HHR6.out HN6.out
  clear HM HHG HHR4 HHR6
  have hrt : r = false := by rw [hr]; exact decide_eq_false (by rw [HSS.out]; decide)
  subst hrt
  rw [if_neg (by decide)] at ha
  clear h8 hr hgn
  have HM := Lib.hid (pmay_any ha ⟨#[114]⟩ [114] rfl (by decide) (by decide))
  have HHG := Lib.hid ga
  have HHR4 := Lib.hid r4a
  have HHR6 := Lib.hid r6a
  clear ga r4a r6a
  go_wp2_with fail
  refine HM.out.mono ?_
  rintro e W7 ⟨r, hr, rfl, hb, hgn⟩
  have gb := nil_grown HHG.out hgn
  have r4b := grown_row hgn HHR4.out HN4.out
  have r6b := grown_row hgn HHR6.out HN6.out
  clear HM HHG HHR4 HHR6
  have hrt : r = false := by rw [hr]; exact decide_eq_false (by rw [HSS.out]; decide)
  subst hrt
  rw [if_neg (by decide)] at hb
  clear ha hr hgn
  have HM := Lib.hid (pmay_any hb ⟨#[105, 102]⟩ [105, 102] rfl (by decide) (by decide))
  have HHG := Lib.hid gb
  have HHR4 := Lib.hid r4b
  have HHR6 := Lib.hid r6b
  clear gb r4b r6b
  go_wp2_with fail
  refine HM.out.mono ?_
  rintro e W8 ⟨r, hr, rfl, hc, hgn⟩
  have gc := nil_grown HHG.out hgn
  have r4c := grown_row hgn HHR4.out HN4.out
  have r6c := grown_row hgn HHR6.out HN6.out
  clear HM HHG HHR4 HHR6
  have hrt : r = false := by rw [hr]; exact decide_eq_false (by rw [HSS.out]; decide)
  subst hrt
  rw [if_neg (by decide)] at hc
  clear hb hr hgn
  have HM := Lib.hid (pmay_any hc ⟨#[100, 111]⟩ [100, 111] rfl (by decide) (by decide))
  have HHG := Lib.hid gc
  have HHR4 := Lib.hid r4c
  have HHR6 := Lib.hid r6c
  clear gc r4c r6c
  go_wp2_with fail
  refine HM.out.mono ?_
  rintro e W9 ⟨r, hr, rfl, hd, hgn⟩
  have gd := nil_grown HHG.out hgn
  have r4d := grown_row hgn HHR4.out HN4.out
  have r6d := grown_row hgn HHR6.out HN6.out
  clear HM HHG HHR4 HHR6
  have hrt : r = true := by rw [hr]; exact decide_eq_true HSS.out
  subst hrt
  rw [if_pos rfl] at hd
  clear hc hr hgn
  have hlt : g6 < (W9).heap.size := r6d.lt
  have HM := Lib.hid (HBLK.out B gp (W9) l.tail none m1 hd (fun _ => HM500.out))
  have HHG := Lib.hid gd
  have HHR4 := Lib.hid r4d
  have HHR6 := Lib.hid r6d
  clear gd r4d r6d
  go_wp2_with fail
  refine HM.out.mono ?_
  rintro e WD ⟨vb, bT, l1, b1, m2, rfl, htr, hA, hm2, hrb, hgn⟩
  have gA := nil_grown HHG.out hgn
  have r4A := grown_row hgn HHR4.out HN4.out
  have r6A := grown_row hgn HHR6.out HN6.out
  clear HM HHG HHR4 HHR6
  obtain ⟨Ab, cb, hv⟩ := htr.form
  subst hv
  have HTRA : Hid (Tr WD (fun k => g6 < k) _ bT) := htr.mono (fun k hk _ => Nat.lt_of_lt_of_le hlt hk)
  clear htr hlt hd
  have HRB := Lib.hid hrb
  have HM2 := Lib.hid hm2
  clear hrb hm2 hgn
  have hgs := (grown_set (grown_set (grown_refl WD (some g6)) (.inl rfl) (p := ⟨g6, 0, none⟩) (.int .u8 3)) (.inl rfl) (p := ⟨g6, 10, none⟩) (.slice Ab bT.len cb))
  have hB := hA.kept (row := some g6) hgs (fun k e => by injection e with e; subst e; exact HG4B.out.2)
  have gB := (grown_set (grown_set gA (.inr HG4W.out.2) (p := ⟨g6, 0, none⟩) (.int .u8 3)) (.inr HG4W.out.2) (p := ⟨g6, 10, none⟩) (.slice Ab bT.len cb))
  have r4B := grown_row hgs r4A HN46.out
  have r6B : World.rowIs (World.setCell (World.setCell WD ⟨g6, 0, none⟩ (.int .u8 3)) ⟨g6, 10, none⟩ (.slice Ab bT.len cb)) g6 60 13 (stF 3 i0 c0 (.slice Ab bT.len cb) (.slice none 0 0) (tk.ln : Nat)) := st_setB (.slice Ab bT.len cb) (st_setK 3 r6A)
  have y0 := r6A.cell (show 0 < 13 by omega)
  have x0 := r6A.frozen 0
  have y10 := r6A.cell (show 10 < 13 by omega)
  have x10 := r6A.frozen 10
  dsimp only [stF, i0, c0] at y0 y10
  have htc := HTRA.out.grown hgs (fun k hk e => by injection e with e; have hk1 : g6 < k := hk; omega)
  clear hA gA r4A r6A hgs
  have HTC := Lib.hid htc
  clear htc HTRA
  have HM := Lib.hid (pmust_any hB ⟨#[119, 104, 105, 108, 101]⟩ [119, 104, 105, 108, 101] rfl (by decide) (by decide))
  have HHG := Lib.hid gB
  have HHR4 := Lib.hid r4B
  have HHR6 := Lib.hid r6B
  clear gB r4B r6B
  go_wp2_with fail
  refine HM.out.mono ?_
  rintro e WE ⟨rfl, l2, b2, hC, hrw, hgn⟩
  have gC := nil_grown HHG.out hgn
  have r4C := grown_row hgn HHR4.out HN4.out
  have r6C := grown_row hgn HHR6.out HN6.out
  clear HM HHG HHR4 HHR6
  have HTD := Lib.hid (HTC.out.grown hgn (fun k hk e => by injection e with e; have hk1 : g6 < k := hk; have := HG4B.out.2; have := HW.out.2; omega))
  have HRW := Lib.hid hrw
  clear hgn hrw HTC hB
  clear y0 x0 y10 x10
  have HM := Lib.hid (pcond_any hC)
  have HHG := Lib.hid gC
  have HHR4 := Lib.hid r4C
  have HHR6 := Lib.hid r6C
  clear gC r4C r6C
  go_wp2_with fail
  refine HM.out.mono ?_
  rintro e WF ⟨⟨nt, ⟨co, cd, cs, cn⟩⟩, l3, b3, rfl, hD, hrc, hgn⟩
  have gD := nil_grown HHG.out hgn
  have r4D := grown_row hgn HHR4.out HN4.out
  have r6D := grown_row hgn HHR6.out HN6.out
  clear HM HHG HHR4 HHR6
  dsimp only [conC]
  have HTE1 := Lib.hid (HTD.out.grown hgn (fun k hk e => by injection e with e; have hk1 : g6 < k := hk; have := HG4B.out.2; have := HW.out.2; omega))
  have HRC := Lib.hid hrc
  clear hrc hgn HTD hC
  have hgs := (grown_set (grown_set (grown_set (grown_set (grown_set (grown_refl WF (some g6)) (.inl rfl) (p := ⟨g6, 5, none⟩) (.bool nt)) (.inl rfl) (p := ⟨g6, 6, none⟩) (.int .u8 (co : Nat))) (.inl rfl) (p := ⟨g6, 7, none⟩) (.int .i64 cd)) (.inl rfl) (p := ⟨g6, 8, none⟩) (.int .i64 cs)) (.inl rfl) (p := ⟨g6, 9, none⟩) (.int .i64 cn))
  have hF := hD.kept (row := some g6) hgs (fun k e => by injection e with e; subst e; exact HG4B.out.2)
  have gF := (grown_set (grown_set (grown_set (grown_set (grown_set gD (.inr HG4W.out.2) (p := ⟨g6, 5, none⟩) (.bool nt)) (.inr HG4W.out.2) (p := ⟨g6, 6, none⟩) (.int .u8 (co : Nat))) (.inr HG4W.out.2) (p := ⟨g6, 7, none⟩) (.int .i64 cd)) (.inr HG4W.out.2) (p := ⟨g6, 8, none⟩) (.int .i64 cs)) (.inr HG4W.out.2) (p := ⟨g6, 9, none⟩) (.int .i64 cn))
  have r4F := grown_row hgs r4D HN46.out
  have r6F := st_setC ⟨nt, ⟨co, cd, cs, cn⟩⟩ r6D
  have y5 := r6D.cell (show 5 < 13 by omega)
  have x5 := r6D.frozen 5
  have y6 := r6D.cell (show 6 < 13 by omega)
  have x6 := r6D.frozen 6
  have y7 := r6D.cell (show 7 < 13 by omega)
  have x7 := r6D.frozen 7
  have y8 := r6D.cell (show 8 < 13 by omega)
  have x8 := r6D.frozen 8
  have y9 := r6D.cell (show 9 < 13 by omega)
  have x9 := r6D.frozen 9
  dsimp only [stF, i0, c0] at y5 y6 y7 y8 y9
  have htb := HTE1.out.grown hgs (fun k hk e => by injection e with e; have hk1 : g6 < k := hk; omega)
  clear hD gD r4D r6D hgs
  have HTB9 := Lib.hid htb
  clear htb HTE1
  have H6 := Lib.hid hF
  have HG := Lib.hid gF
  have HR6 := Lib.hid r6F
  have HR4' := Lib.hid r4F
  have HTB := Lib.hid (HTB9.out)
  have HTE := Lib.hid (Tr.nil (World.setCell (World.setCell (World.setCell (World.setCell (World.setCell WF ⟨g6, 5, none⟩ (.bool nt)) ⟨g6, 6, none⟩ (.int .u8 (co : Nat))) ⟨g6, 7, none⟩ (.int .i64 cd)) ⟨g6, 8, none⟩ (.int .i64 cs)) ⟨g6, 9, none⟩ (.int .i64 cn)) (fun k => g6 < k))
  have a0 := r6F.cell (show 0 < 13 by omega)
  have b0 := r4F.cell (show 0 < 13 by omega)
  have z0 := r4F.frozen 0
  have a1 := r6F.cell (show 1 < 13 by omega)
  have b1 := r4F.cell (show 1 < 13 by omega)
  have z1 := r4F.frozen 1
  have a2 := r6F.cell (show 2 < 13 by omega)
  have b2 := r4F.cell (show 2 < 13 by omega)
  have z2 := r4F.frozen 2
  have a3 := r6F.cell (show 3 < 13 by omega)
  have b3 := r4F.cell (show 3 < 13 by omega)
  have z3 := r4F.frozen 3
  have a4 := r6F.cell (show 4 < 13 by omega)
  have b4 := r4F.cell (show 4 < 13 by omega)
  have z4 := r4F.frozen 4
  have a5 := r6F.cell (show 5 < 13 by omega)
  have b5 := r4F.cell (show 5 < 13 by omega)
  have z5 := r4F.frozen 5
  have a6 := r6F.cell (show 6 < 13 by omega)
  have b6 := r4F.cell (show 6 < 13 by omega)
  have z6 := r4F.frozen 6
  have a7 := r6F.cell (show 7 < 13 by omega)
  have b7 := r4F.cell (show 7 < 13 by omega)
  have z7 := r4F.frozen 7
  have a8 := r6F.cell (show 8 < 13 by omega)
  have b8 := r4F.cell (show 8 < 13 by omega)
  have z8 := r4F.frozen 8
  have a9 := r6F.cell (show 9 < 13 by omega)
  have b9 := r4F.cell (show 9 < 13 by omega)
  have z9 := r4F.frozen 9
  have a10 := r6F.cell (show 10 < 13 by omega)
  have b10 := r4F.cell (show 10 < 13 by omega)
  have z10 := r4F.frozen 10
  have a11 := r6F.cell (show 11 < 13 by omega)
  have b11 := r4F.cell (show 11 < 13 by omega)
  have z11 := r4F.frozen 11
  have a12 := r6F.cell (show 12 < 13 by omega)
  have b12 := r4F.cell (show 12 < 13 by omega)
  have z12 := r4F.frozen 12
  dsimp only [stF, i0, c0] at a0 b0 a1 b1 a2 b2 a3 b3 a4 b4 a5 b5 a6 b6 a7 b7 a8 b8 a9 b9 a10 b10 a11 b11 a12 b12
  clear hF gF r6F r4F
  go_wp2_with fail
  (try simp only [Exit.inBlock, Exit.then])
  have hx0 := (grown_set (grown_set (grown_set (grown_set (grown_set (grown_set (grown_set (grown_set (grown_set (grown_set (grown_set (grown_set (grown_set (grown_refl (World.setCell (World.setCell (World.setCell (World.setCell (World.setCell WF ⟨g6, 5, none⟩ (.bool nt)) ⟨g6, 6, none⟩ (.int .u8 (co : Nat))) ⟨g6, 7, none⟩ (.int .i64 cd)) ⟨g6, 8, none⟩ (.int .i64 cs)) ⟨g6, 9, none⟩ (.int .i64 cn)) (some g4)) (.inl rfl) (p := ⟨g4, 0, none⟩) (.int .u8 (3 : Nat))) (.inl rfl) (p := ⟨g4, 1, none⟩) (.int .u8 (0 : Nat))) (.inl rfl) (p := ⟨g4, 2, none⟩) (.int .i64 0)) (.inl rfl) (p := ⟨g4, 3, none⟩) (.int .i64 0)) (.inl rfl) (p := ⟨g4, 4, none⟩) (.int .i64 0)) (.inl rfl) (p := ⟨g4, 5, none⟩) (.bool nt)) (.inl rfl) (p := ⟨g4, 6, none⟩) (.int .u8 (co : Nat))) (.inl rfl) (p := ⟨g4, 7, none⟩) (.int .i64 cd)) (.inl rfl) (p := ⟨g4, 8, none⟩) (.int .i64 cs)) (.inl rfl) (p := ⟨g4, 9, none⟩) (.int .i64 cn)) (.inl rfl) (p := ⟨g4, 10, none⟩) (.slice Ab bT.len cb)) (.inl rfl) (p := ⟨g4, 11, none⟩) (.slice none 0 0)) (.inl rfl) (p := ⟨g4, 12, none⟩) (.int .i64 (tk.ln : Nat)))
  have hx1 := st_all 3 ⟨0, 0, 0, 0⟩ ⟨nt, ⟨co, cd, cs, cn⟩⟩ (.slice Ab bT.len cb) (.slice none 0 0) ((tk.ln : Nat)) HR4'.out
  have hx2 := H6.out.kept (row := some g4) hx0 (fun k e => by injection e with e; subst e; exact HG4B.out.1)
  have hx3 := (grown_set (grown_set (grown_set (grown_set (grown_set (grown_set (grown_set (grown_set (grown_set (grown_set (grown_set (grown_set (grown_set HG.out (.inr HG4W.out.1) (p := ⟨g4, 0, none⟩) (.int .u8 (3 : Nat))) (.inr HG4W.out.1) (p := ⟨g4, 1, none⟩) (.int .u8 (0 : Nat))) (.inr HG4W.out.1) (p := ⟨g4, 2, none⟩) (.int .i64 0)) (.inr HG4W.out.1) (p := ⟨g4, 3, none⟩) (.int .i64 0)) (.inr HG4W.out.1) (p := ⟨g4, 4, none⟩) (.int .i64 0)) (.inr HG4W.out.1) (p := ⟨g4, 5, none⟩) (.bool nt)) (.inr HG4W.out.1) (p := ⟨g4, 6, none⟩) (.int .u8 (co : Nat))) (.inr HG4W.out.1) (p := ⟨g4, 7, none⟩) (.int .i64 cd)) (.inr HG4W.out.1) (p := ⟨g4, 8, none⟩) (.int .i64 cs)) (.inr HG4W.out.1) (p := ⟨g4, 9, none⟩) (.int .i64 cn)) (.inr HG4W.out.1) (p := ⟨g4, 10, none⟩) (.slice Ab bT.len cb)) (.inr HG4W.out.1) (p := ⟨g4, 11, none⟩) (.slice none 0 0)) (.inr HG4W.out.1) (p := ⟨g4, 12, none⟩) (.int .i64 (tk.ln : Nat)))
  have hx4 := HTB.out.grown hx0 (fun k hk e => by injection e with e; have := HE3.out; have hk' : g6 < k := hk; omega)
  have hx5 := HTE.out.grown hx0 (fun k hk e => by injection e with e; have := HE3.out; have hk' : g6 < k := hk; omega)
  have hx4 := hx4.mono (S' := fun k => w.heap.size ≤ k) (fun k hk _ => by have := HG4.out; have := HE3.out; have hk' : g6 < k := hk; omega)
  have hx5 := hx5.mono (S' := fun k => w.heap.size ≤ k) (fun k hk _ => by have := HG4.out; have := HE3.out; have hk' : g6 < k := hk; omega)
  clear hx0
  dsimp only at hx1 hx2 hx3 hx4 hx5 ⊢
  generalize (World.setCell (World.setCell (World.setCell (World.setCell (World.setCell (World.setCell (World.setCell (World.setCell (World.setCell (World.setCell (World.setCell (World.setCell (World.setCell (World.setCell (World.setCell (World.setCell (World.setCell (World.setCell WF ⟨g6, 5, none⟩ (.bool nt)) ⟨g6, 6, none⟩ (.int .u8 (co : Nat))) ⟨g6, 7, none⟩ (.int .i64 cd)) ⟨g6, 8, none⟩ (.int .i64 cs)) ⟨g6, 9, none⟩ (.int .i64 cn)) ⟨g4, 0, none⟩ (.int .u8 (3 : Nat))) ⟨g4, 1, none⟩ (.int .u8 (0 : Nat))) ⟨g4, 2, none⟩ (.int .i64 0)) ⟨g4, 3, none⟩ (.int .i64 0)) ⟨g4, 4, none⟩ (.int .i64 0)) ⟨g4, 5, none⟩ (.bool nt)) ⟨g4, 6, none⟩ (.int .u8 (co : Nat))) ⟨g4, 7, none⟩ (.int .i64 cd)) ⟨g4, 8, none⟩ (.int .i64 cs)) ⟨g4, 9, none⟩ (.int .i64 cn)) ⟨g4, 10, none⟩ (.slice Ab bT.len cb)) ⟨g4, 11, none⟩ (.slice none 0 0)) ⟨g4, 12, none⟩ (.int .i64 (tk.ln : Nat))) = W99 at hx1 hx2 hx3 hx4 hx5 ⊢
  refine bodyPost_ret (st_results rfl _ _ g4 rfl hx1) rfl ?_
  exact ⟨⟨3, ⟨0, 0, 0, 0⟩, ⟨nt, ⟨co, cd, cs, cn⟩⟩, bT, .nil, (tk.ln : Nat)⟩, .slice Ab bT.len cb, .slice none 0 0, l3, _, m2, rfl, hx4, hx5, hx2, (fun e => HM2.out (by have h1 := HRW.out; have h2 := HRC.out; subst e; exact none_back h1 h2)), by rw [HT.out]; exact do_any (by rw [HM1.out]; exact st_do HL.out HKB.out HKU.out HKF.out HSS.out) HRB.out HRW.out HRC.out, hx3⟩
end
end Go.Proofs.Ythmpagehmfillaa
