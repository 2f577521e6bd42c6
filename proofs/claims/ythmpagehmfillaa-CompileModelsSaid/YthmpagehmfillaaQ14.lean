/-
  THE WALK OF parse's stmt, first part: no statement; too many, or too deep. Conditions: a parser.
-/
import Derived.Test.YthmpagehmfillaaQ13
import Derived.Test.YthmpagehmfillaaQ12
namespace Go.Proofs.Ythmpagehmfillaa
open Go.RowKit
set_option linter.unusedSimpArgs false
set_option linter.unusedVariables false
/-- What a block's parser does, so deep. -/
def BlkC (dp : Nat) (blk : Blk) : Prop := ∀ (B gp : Nat) (w : World) (l : List Tok) (b : Option Flt) (many : Nat), PS B w gp l b many → (b = none → many ≤ 500) →
  Calls Try.prog 73 #[.pointer (some ⟨gp, 0, none⟩), .int .i64 dp] w fun e w' => ∃ v T l' b' many', e = .returned v ∧ Tr w' (fun k => w.heap.size ≤ k) v T ∧ PS B w' gp l' b' many' ∧ (b' = none → many' ≤ 500) ∧ RelM blk l many b T l' b' many' ∧ w.grownBy w' (some gp)
/-- What a statement's parser comes to. -/
def StPost (f : List Tok → Nat → Res (StS × List Tok × Nat)) (B gp : Nat) (w : World) (l : List Tok) (many : Nat) (e : Ending) (w' : World) : Prop :=
  ∃ x vb ve l' b' many', e = .returned (.agg (stA x.k x.i x.c vb ve x.ln)) ∧ Tr w' (fun k => w.heap.size ≤ k) vb x.b ∧ Tr w' (fun k => w.heap.size ≤ k) ve x.e ∧ PS B w' gp l' b' many' ∧
      (b' = none → many' ≤ 500) ∧ RelM f l many none x l' b' many' ∧ w.grownBy w' (some gp)
theorem bare_una {s : List Nat} {n : Nat} (h : look bareL s = some n) : look unaL s = none := by
  have h1 := look_mem h
  have h2 : ∀ x ∈ bareL, look unaL x.1 = none := by decide
  exact h2 _ h1
theorem key_ne {L : List (List Nat × Nat)} {s : List Nat} {n : Nat} (h : look L s = some n) (h2 : ∀ x ∈ L, x.1 ≠ [] ∧ x.2 < 256) : s ≠ [] ∧ n < 256 := h2 _ (look_mem h)
theorem fir_one {s : List Nat} {n : Nat} (h : look firL s = some n) : n = 1 := by
  have h1 := look_mem h
  have h2 : ∀ x ∈ firL, x.2 = 1 := by decide
  exact h2 _ h1
theorem chain3 {W0 W1 W2 W3 : World} {a b c : Nat} {K L M : List (List Nat × Value)} (h1 : MB W0 W1 a K) (h2 : MB W1 W2 b L) (h3 : MB W2 W3 c M) : Below W0.heap.size W0 W3 :=
  (h1.be.trans (h2.be.mono h1.be.size)).trans (h3.be.mono (Nat.le_trans h1.be.size h2.be.size))
section
variable {w : World} {B gp gi : Nat} {l : List Tok} {b : Option Flt} {many : Nat}
set_option maxRecDepth 100000 in
set_option maxHeartbeats 40000000 in
theorem pstmt_syn (dp : Nat) (deep : Bool) (blk : Blk) (h : PS B w gp l none many) (hm : many ≤ 500) (hkb' : look bareL (hd l).s = none) (hku' : look unaL (hd l).s = none) (hkf' : look firL (hd l).s = none) :
    Calls Try.prog 95 #[.pointer (some ⟨gp, 0, none⟩), .int .i64 dp] w (StPost (stmt deep blk) B gp w l many) := by
  have HM5 := Lib.hid hm
  clear hm
  have hb1 : Below w.heap.size w (w.alloc (.cells (stA 0 i0 c0 (.slice none 0 0) (.slice none 0 0) 0) 60)) := (Below.refl _ _).alloc (Nat.le_refl _) _
  have h1 := h.below hb1
  have hr4 := st_row (heap_alloc_new w (.cells (stA 0 i0 c0 (.slice none 0 0) (.slice none 0 0) 0) 60))
  obtain ⟨g, o, c, q1, q2, q3, q4, q5, q6⟩ := h1.ex
  obtain ⟨t0, t1, t2, t3⟩ := q6.head h1.tl
  have f0 := q1.cell (show 0 < 4 by omega)
  dsimp only [psF] at f0
  have hl : 0 < l.length := List.length_pos_iff.2 h.tl.ne
  have hlI : (0 : Int) < l.length := by omega
  obtain ⟨tk, htk⟩ : ∃ tk, tk = hd l := ⟨_, rfl⟩
  rw [← htk] at t0 t1 t2 t3
  have hs8 : B8 tk.s := by rw [htk]; exact h.tl.hd_ok.1
  have HW := Lib.hid (And.intro h.bw h.bp)
  have H1 := Lib.hid h1
  have HB1 := Lib.hid hb1
  have HR4 := Lib.hid hr4
  have HT := Lib.hid htk
  clear h htk q1 q6 h1 hb1 hr4
  rw [show stA 0 i0 c0 (.slice none 0 0) (.slice none 0 0) 0 = #[.int .u8 0, .int .u8 0, .int .i64 0, .int .i64 0, .int .i64 0, .bool false, .int .u8 0, .int .i64 0, .int .i64 0, .int .i64 0, .slice none 0 0, .slice none 0 0, .int .i64 0] from rfl] at f0 t0 t1 t2 t3
  go_enter Try.func95, Try.ntmps95
  go_wp2_with fail
  have h1 := H1.out
  have hb1 := HB1.out
  have hr4 := HR4.out
  clear H1 HB1 HR4 f0 t0 t1 t2 t3
  rw [show stA 0 i0 c0 (.slice none 0 0) (.slice none 0 0) 0 = #[.int .u8 0, .int .u8 0, .int .i64 0, .int .i64 0, .int .i64 0, .bool false, .int .u8 0, .int .i64 0, .int .i64 0, .int .i64 0, .slice none 0 0, .slice none 0 0, .int .i64 0] from rfl] at h1 hb1 hr4
  have e1 : (w.alloc (.cells #[.int .u8 0, .int .u8 0, .int .i64 0, .int .i64 0, .int .i64 0, .bool false, .int .u8 0, .int .i64 0, .int .i64 0, .int .i64 0, .slice none 0 0, .slice none 0 0, .int .i64 0] 60)).heap.size = w.heap.size + 1 := World.size_alloc _ _
  generalize w.alloc (.cells #[.int .u8 0, .int .u8 0, .int .i64 0, .int .i64 0, .int .i64 0, .bool false, .int .u8 0, .int .i64 0, .int .i64 0, .int .i64 0, .slice none 0 0, .slice none 0 0, .int .i64 0] 60) = W1 at *
  have ht5 := al_four W1 tk
  have hb2 : Below W1.heap.size W1 (W1.alloc (.cells #[.int .u8 tk.k, .string (mkS tk.s), .int .i64 tk.n, .int .i64 tk.ln] 111)) := (Below.refl _ _).alloc (Nat.le_refl _) _
  have h2 := h1.below hb2
  have hr42 := below_row hb2 hr4 hr4.lt
  have e2 : (W1.alloc (.cells #[.int .u8 tk.k, .string (mkS tk.s), .int .i64 tk.n, .int .i64 tk.ln] 111)).heap.size = W1.heap.size + 1 := World.size_alloc _ _
  generalize W1.alloc (.cells #[.int .u8 tk.k, .string (mkS tk.s), .int .i64 tk.n, .int .i64 tk.ln] 111) = W2 at *
  have hb3 : Below W2.heap.size W2 (W2.alloc (.cells #[.int .u8 1, .int .u8 0, .int .i64 0, .int .i64 0, .int .i64 0, .bool false, .int .u8 0, .int .i64 0, .int .i64 0, .int .i64 0, .slice none 0 0, .slice none 0 0, .int .i64 tk.ln] 60)) := (Below.refl _ _).alloc (Nat.le_refl _) _
  have h3 := h2.below hb3
  have hr43 := below_row hb3 hr42 hr42.lt
  have ht53 := ht5.keep (hb3.block W1.heap.size (by omega))
  have hr63 := st_row (k := 1) (i := i0) (c := c0) (vb := .slice none 0 0) (ve := .slice none 0 0) (ln := tk.ln) (heap_alloc_new W2 (.cells #[.int .u8 1, .int .u8 0, .int .i64 0, .int .i64 0, .int .i64 0, .bool false, .int .u8 0, .int .i64 0, .int .i64 0, .int .i64 0, .slice none 0 0, .slice none 0 0, .int .i64 tk.ln] 60))
  have hg3 := grown_of_below ((hb1.trans (hb2.mono hb1.size)).trans (hb3.mono (Nat.le_trans hb1.size hb2.size))) (some gp)
  have e3 : w.heap.size < W2.heap.size ∧ w.heap.size + 2 = W2.heap.size ∧ w.heap.size + 1 = W1.heap.size := by omega
  generalize W2.alloc (.cells #[.int .u8 1, .int .u8 0, .int .i64 0, .int .i64 0, .int .i64 0, .bool false, .int .u8 0, .int .i64 0, .int .i64 0, .int .i64 0, .slice none 0 0, .slice none 0 0, .int .i64 tk.ln] 60) = W3 at *
  rw [show w.heap.size + 1 + 1 = W2.heap.size by omega, show w.heap.size + 1 = W1.heap.size by omega]
  clear hb1 hb2 hb3 hr4 hr42 h1 h2 ht5 e1 e2
  generalize W1.heap.size = g5 at *
  generalize W2.heap.size = g6 at *
  clear W1 W2
  obtain ⟨g4, hg4⟩ : ∃ g4, g4 = w.heap.size := ⟨_, rfl⟩
  rw [← hg4] at hr43 e3 ⊢
  have HG4 := Lib.hid hg4
  have HE3 := Lib.hid e3
  have H3 := Lib.hid h3
  have HR43 := Lib.hid hr43
  have HR63 := Lib.hid hr63
  have HG3 := Lib.hid hg3
  obtain ⟨g', o', c', q1', -⟩ := h3.ex
  have F3 : Hid (W3.cell? ⟨gp, 3, none⟩ = some (.int .i64 many)) := q1'.cell (show 3 < 4 by omega)
  have Z3 : Hid (W3.frozen? ⟨gp, 3, none⟩ = false) := q1'.frozen 3
  obtain ⟨-, T1', -, -⟩ := ht53
  have hN4 : g4 ≠ gp := by have := HW.out; omega
  have hN6 : g6 ≠ gp := by have := HW.out; omega
  have hN46 : g4 ≠ g6 := by omega
  have hN64 : g6 ≠ g4 := by omega
  have HN4 := Lib.hid hN4
  have HN6 := Lib.hid hN6
  have HN46 := Lib.hid hN46
  have HN64 := Lib.hid hN64
  have HG4B : Hid (B ≤ g4 ∧ B ≤ g6) := by have := HW.out; unfold Hid; omega
  have HG4W : Hid (w.heap.size ≤ g4 ∧ w.heap.size ≤ g6) := by unfold Hid; omega
  obtain ⟨s, hs⟩ : ∃ s, s = tk.s := ⟨_, rfl⟩
  rw [← hs] at hs8 T1' ⊢
  have HS : Hid (s = (hd l).s) := by rw [← HT.out]; exact hs
  have T1 := Lib.hid T1'
  clear hg4 e3 h3 hr43 hr63 hg3 T1' hN4 hN6 hN46 hN64 hs q1'
  have hmm := @run_makeMap Try.prog
  rw [hmm]
  go_simp
  have hkb := HS.out ▸ hkb'
  have hku := HS.out ▸ hku'
  have hkf := HS.out ▸ hkf'
  have HK : Hid (¬ Known (hd l).s) := by unfold Hid Known; rw [hkb', hku', hkf']; simp
  clear hkb' hku' hkf'
  go_wp2_with (first
    | (refine wpList_ins rfl _ _ _ _ rfl 9 3 Try.underlying178 Try.underlying9 _ _ rfl hMC _ rfl _ rfl (by rfl) ?_; clear hMC t1 f3 z3; intro WC hMC; have hbC := chain3 hMA hMB hMC; have t1 := (hbC.cell (World.block_lt_of_cell? _ _ T1.out)).trans T1.out; have f3 := (hbC.cell (World.block_lt_of_cell? _ _ F3.out)).trans F3.out; have z3 := (hbC.frozen (World.block_lt_of_cell? _ _ F3.out)).trans Z3.out; clear hbC)
    | (refine wpList_ins rfl _ _ _ _ rfl 9 54 Try.underlying177 Try.underlying9 _ _ rfl hMB _ rfl _ rfl (by rfl) ?_; clear hMB; intro WB hMB)
    | (refine wpList_ins rfl _ _ _ _ rfl 9 54 Try.underlying177 Try.underlying9 _ _ rfl hMA _ rfl _ rfl (by rfl) ?_; clear hMA; intro WA hMA)
    | ((have _x := hMB); refine wpList_ins rfl _ _ _ _ rfl 9 3 Try.underlying178 Try.underlying9 _ _ rfl (MB.made _) _ rfl _ rfl (by rfl) ?_; clear _x; intro WC hMC; have hbC := chain3 hMA hMB hMC; have t1 := (hbC.cell (World.block_lt_of_cell? _ _ T1.out)).trans T1.out; have f3 := (hbC.cell (World.block_lt_of_cell? _ _ F3.out)).trans F3.out; have z3 := (hbC.frozen (World.block_lt_of_cell? _ _ F3.out)).trans Z3.out; clear hbC)
    | ((have _x := hMA); refine wpList_ins rfl _ _ _ _ rfl 9 54 Try.underlying177 Try.underlying9 _ _ rfl (MB.made _) _ rfl _ rfl (by rfl) ?_; clear _x; intro WB hMB)
    | (refine wpList_ins rfl _ _ _ _ rfl 9 54 Try.underlying177 Try.underlying9 _ _ rfl (MB.made _) _ rfl _ rfl (by rfl) ?_; intro WA hMA)
    | (refine wpList_lookN rfl _ _ _ rfl 9 54 .u8 Try.underlying177 Try.underlying9 zero_op _ bareL rfl (((hMA.to (by kernel_rfl)).below hMB.be).below hMC.be) (by decide) s hs8 rfl ?_; rw [show lookN bareL s = _ from hkb]; dsimp only [Option.getD_some, Option.isSome_some, Option.getD_none, Option.isSome_none])
    | (refine wpList_lookN rfl _ _ _ rfl 9 54 .u8 Try.underlying177 Try.underlying9 zero_op _ unaL rfl ((hMB.to (by kernel_rfl)).below hMC.be) (by decide) s hs8 rfl ?_; rw [show lookN unaL s = _ from hku]; dsimp only [Option.getD_some, Option.isSome_some, Option.getD_none, Option.isSome_none])
    | (refine wpList_lookV (by rfl) _ _ _ rfl 9 3 .i64 Try.underlying178 Try.underlying9 zero_int _ firL rfl (hMC.to (by kernel_rfl)) (by decide) s hs8 rfl ?_; rw [show lookN firL s = _ from hkf]; dsimp only [Option.getD_some, Option.isSome_some, Option.getD_none, Option.isSome_none]))
  have hbC := chain3 hMA hMB hMC
  have h7 := H3.out.below hbC
  have r4 := below_row hbC HR43.out HR43.out.lt
  have r6 := below_row hbC HR63.out HR63.out.lt
  have gC := nil_grown HG3.out (grown_of_below hbC (some gp))
  clear hMA hMB hMC t1 f3 z3 hbC hmm hs8
  have HM := Lib.hid (pfail_any h7 121 (by decide))
  have HHG := Lib.hid gC
  have HHR4 := Lib.hid r4
  have HHR6 := Lib.hid r6
  clear gC r4 r6
  go_wp2_with fail
  refine HM.out.mono ?_
  rintro e W6 ⟨rfl, h8, hgn⟩
  have g8 := nil_grown HHG.out hgn
  have r48 := grown_row hgn HHR4.out HN4.out
  have r68 := grown_row hgn HHR6.out HN6.out
  clear HM HHG HHR4 HHR6
  clear h7 hgn
  have H6 := Lib.hid h8
  have HG := Lib.hid g8
  have HR6 := Lib.hid r68
  have HR4' := Lib.hid r48
  have HTB := Lib.hid (Tr.nil W6 (fun k => g6 < k))
  have HTE := Lib.hid (Tr.nil W6 (fun k => g6 < k))
  have a0 := r68.cell (show 0 < 13 by omega)
  have b0 := r48.cell (show 0 < 13 by omega)
  have z0 := r48.frozen 0
  have a1 := r68.cell (show 1 < 13 by omega)
  have b1 := r48.cell (show 1 < 13 by omega)
  have z1 := r48.frozen 1
  have a2 := r68.cell (show 2 < 13 by omega)
  have b2 := r48.cell (show 2 < 13 by omega)
  have z2 := r48.frozen 2
  have a3 := r68.cell (show 3 < 13 by omega)
  have b3 := r48.cell (show 3 < 13 by omega)
  have z3 := r48.frozen 3
  have a4 := r68.cell (show 4 < 13 by omega)
  have b4 := r48.cell (show 4 < 13 by omega)
  have z4 := r48.frozen 4
  have a5 := r68.cell (show 5 < 13 by omega)
  have b5 := r48.cell (show 5 < 13 by omega)
  have z5 := r48.frozen 5
  have a6 := r68.cell (show 6 < 13 by omega)
  have b6 := r48.cell (show 6 < 13 by omega)
  have z6 := r48.frozen 6
  have a7 := r68.cell (show 7 < 13 by omega)
  have b7 := r48.cell (show 7 < 13 by omega)
  have z7 := r48.frozen 7
  have a8 := r68.cell (show 8 < 13 by omega)
  have b8 := r48.cell (show 8 < 13 by omega)
  have z8 := r48.frozen 8
  have a9 := r68.cell (show 9 < 13 by omega)
  have b9 := r48.cell (show 9 < 13 by omega)
  have z9 := r48.frozen 9
  have a10 := r68.cell (show 10 < 13 by omega)
  have b10 := r48.cell (show 10 < 13 by omega)
  have z10 := r48.frozen 10
  have a11 := r68.cell (show 11 < 13 by omega)
  have b11 := r48.cell (show 11 < 13 by omega)
  have z11 := r48.frozen 11
  have a12 := r68.cell (show 12 < 13 by omega)
  have b12 := r48.cell (show 12 < 13 by omega)
  have z12 := r48.frozen 12
  dsimp only [stF, i0, c0] at a0 b0 a1 b1 a2 b2 a3 b3 a4 b4 a5 b5 a6 b6 a7 b7 a8 b8 a9 b9 a10 b10 a11 b11 a12 b12
  clear h8 g8 r68 r48
  go_wp2_with fail
  (try simp only [Exit.inBlock, Exit.then])
  have hx0 := (grown_set (grown_set (grown_set (grown_set (grown_set (grown_set (grown_set (grown_set (grown_set (grown_set (grown_set (grown_set (grown_set (grown_refl W6 (some g4)) (.inl rfl) (p := ⟨g4, 0, none⟩) (.int .u8 (1 : Nat))) (.inl rfl) (p := ⟨g4, 1, none⟩) (.int .u8 (0 : Nat))) (.inl rfl) (p := ⟨g4, 2, none⟩) (.int .i64 0)) (.inl rfl) (p := ⟨g4, 3, none⟩) (.int .i64 0)) (.inl rfl) (p := ⟨g4, 4, none⟩) (.int .i64 0)) (.inl rfl) (p := ⟨g4, 5, none⟩) (.bool false)) (.inl rfl) (p := ⟨g4, 6, none⟩) (.int .u8 (0 : Nat))) (.inl rfl) (p := ⟨g4, 7, none⟩) (.int .i64 0)) (.inl rfl) (p := ⟨g4, 8, none⟩) (.int .i64 0)) (.inl rfl) (p := ⟨g4, 9, none⟩) (.int .i64 0)) (.inl rfl) (p := ⟨g4, 10, none⟩) (.slice none 0 0)) (.inl rfl) (p := ⟨g4, 11, none⟩) (.slice none 0 0)) (.inl rfl) (p := ⟨g4, 12, none⟩) (.int .i64 (tk.ln : Nat)))
  have hx1 := st_all 1 ⟨0, 0, 0, 0⟩ ⟨false, ⟨0, 0, 0, 0⟩⟩ (.slice none 0 0) (.slice none 0 0) ((tk.ln : Nat)) HR4'.out
  have hx2 := H6.out.kept (row := some g4) hx0 (fun k e => by injection e with e; subst e; exact HG4B.out.1)
  have hx3 := (grown_set (grown_set (grown_set (grown_set (grown_set (grown_set (grown_set (grown_set (grown_set (grown_set (grown_set (grown_set (grown_set HG.out (.inr HG4W.out.1) (p := ⟨g4, 0, none⟩) (.int .u8 (1 : Nat))) (.inr HG4W.out.1) (p := ⟨g4, 1, none⟩) (.int .u8 (0 : Nat))) (.inr HG4W.out.1) (p := ⟨g4, 2, none⟩) (.int .i64 0)) (.inr HG4W.out.1) (p := ⟨g4, 3, none⟩) (.int .i64 0)) (.inr HG4W.out.1) (p := ⟨g4, 4, none⟩) (.int .i64 0)) (.inr HG4W.out.1) (p := ⟨g4, 5, none⟩) (.bool false)) (.inr HG4W.out.1) (p := ⟨g4, 6, none⟩) (.int .u8 (0 : Nat))) (.inr HG4W.out.1) (p := ⟨g4, 7, none⟩) (.int .i64 0)) (.inr HG4W.out.1) (p := ⟨g4, 8, none⟩) (.int .i64 0)) (.inr HG4W.out.1) (p := ⟨g4, 9, none⟩) (.int .i64 0)) (.inr HG4W.out.1) (p := ⟨g4, 10, none⟩) (.slice none 0 0)) (.inr HG4W.out.1) (p := ⟨g4, 11, none⟩) (.slice none 0 0)) (.inr HG4W.out.1) (p := ⟨g4, 12, none⟩) (.int .i64 (tk.ln : Nat)))
  have hx4 := HTB.out.grown hx0 (fun k hk e => by injection e with e; have := HE3.out; have hk' : g6 < k := hk; omega)
  have hx5 := HTE.out.grown hx0 (fun k hk e => by injection e with e; have := HE3.out; have hk' : g6 < k := hk; omega)
  have hx4 := hx4.mono (S' := fun k => w.heap.size ≤ k) (fun k hk _ => by have := HG4.out; have := HE3.out; have hk' : g6 < k := hk; omega)
  have hx5 := hx5.mono (S' := fun k => w.heap.size ≤ k) (fun k hk _ => by have := HG4.out; have := HE3.out; have hk' : g6 < k := hk; omega)
  clear hx0
  dsimp only at hx1 hx2 hx3 hx4 hx5 ⊢
  generalize (World.setCell (World.setCell (World.setCell (World.setCell (World.setCell (World.setCell (World.setCell (World.setCell (World.setCell (World.setCell (World.setCell (World.setCell (World.setCell W6 ⟨g4, 0, none⟩ (.int .u8 (1 : Nat))) ⟨g4, 1, none⟩ (.int .u8 (0 : Nat))) ⟨g4, 2, none⟩ (.int .i64 0)) ⟨g4, 3, none⟩ (.int .i64 0)) ⟨g4, 4, none⟩ (.int .i64 0)) ⟨g4, 5, none⟩ (.bool false)) ⟨g4, 6, none⟩ (.int .u8 (0 : Nat))) ⟨g4, 7, none⟩ (.int .i64 0)) ⟨g4, 8, none⟩ (.int .i64 0)) ⟨g4, 9, none⟩ (.int .i64 0)) ⟨g4, 10, none⟩ (.slice none 0 0)) ⟨g4, 11, none⟩ (.slice none 0 0)) ⟨g4, 12, none⟩ (.int .i64 (tk.ln : Nat))) = W99 at hx1 hx2 hx3 hx4 hx5 ⊢
  refine bodyPost_ret (st_results rfl _ _ g4 rfl hx1) rfl ?_
  exact ⟨⟨1, ⟨0, 0, 0, 0⟩, ⟨false, ⟨0, 0, 0, 0⟩⟩, .nil, .nil, (tk.ln : Nat)⟩, .slice none 0 0, .slice none 0 0, l, _, many, rfl, hx4, hx5, hx2, (fun _ => HM5.out), .err (st_syn HK.out), hx3⟩
set_option maxRecDepth 100000 in
set_option maxHeartbeats 40000000 in
theorem pstmt_long (dp : Nat) (hd21 : dp ≤ 21) (deep : Bool) (hq : deep = decide (20 < dp)) (blk : Blk) (h : PS B w gp l none many) (hm : many ≤ 500) (hk : Known (hd l).s) (hlong : 500 < many + 1 ∨ deep = true) :
    Calls Try.prog 95 #[.pointer (some ⟨gp, 0, none⟩), .int .i64 dp] w (StPost (stmt deep blk) B gp w l many) := by
  have HK := Lib.hid hk
  have HL := Lib.hid hlong
  obtain ⟨m1, hm1⟩ : ∃ m1, m1 = many + 1 := ⟨_, rfl⟩
  have hw1 : IntKind.i64.wrap ((many : Int) + 1) = (m1 : Int) := by rw [IntKind.wrap_i64]; omega; all_goals omega
  have hm501 : m1 ≤ 501 := by omega
  have htest : (500 : Int) < m1 ∨ (¬ (500 : Int) < m1 ∧ (20 : Int) < dp) := by
    by_cases h5 : 500 < many + 1
    · left; omega
    · right
      rcases hlong with h | h
      · omega
      · rw [h] at hq; have := of_decide_eq_true hq.symm; omega
  clear hk hlong hq hm hd21 hm1
  have hb1 : Below w.heap.size w (w.alloc (.cells (stA 0 i0 c0 (.slice none 0 0) (.slice none 0 0) 0) 60)) := (Below.refl _ _).alloc (Nat.le_refl _) _
  have h1 := h.below hb1
  have hr4 := st_row (heap_alloc_new w (.cells (stA 0 i0 c0 (.slice none 0 0) (.slice none 0 0) 0) 60))
  obtain ⟨g, o, c, q1, q2, q3, q4, q5, q6⟩ := h1.ex
  obtain ⟨t0, t1, t2, t3⟩ := q6.head h1.tl
  have f0 := q1.cell (show 0 < 4 by omega)
  dsimp only [psF] at f0
  have hl : 0 < l.length := List.length_pos_iff.2 h.tl.ne
  have hlI : (0 : Int) < l.length := by omega
  obtain ⟨tk, htk⟩ : ∃ tk, tk = hd l := ⟨_, rfl⟩
  rw [← htk] at t0 t1 t2 t3
  have hs8 : B8 tk.s := by rw [htk]; exact h.tl.hd_ok.1
  have HW := Lib.hid (And.intro h.bw h.bp)
  have H1 := Lib.hid h1
  have HB1 := Lib.hid hb1
  have HR4 := Lib.hid hr4
  have HT := Lib.hid htk
  clear h htk q1 q6 h1 hb1 hr4
  rw [show stA 0 i0 c0 (.slice none 0 0) (.slice none 0 0) 0 = #[.int .u8 0, .int .u8 0, .int .i64 0, .int .i64 0, .int .i64 0, .bool false, .int .u8 0, .int .i64 0, .int .i64 0, .int .i64 0, .slice none 0 0, .slice none 0 0, .int .i64 0] from rfl] at f0 t0 t1 t2 t3
  go_enter Try.func95, Try.ntmps95
  go_wp2_with fail
  have h1 := H1.out
  have hb1 := HB1.out
  have hr4 := HR4.out
  clear H1 HB1 HR4 f0 t0 t1 t2 t3
  rw [show stA 0 i0 c0 (.slice none 0 0) (.slice none 0 0) 0 = #[.int .u8 0, .int .u8 0, .int .i64 0, .int .i64 0, .int .i64 0, .bool false, .int .u8 0, .int .i64 0, .int .i64 0, .int .i64 0, .slice none 0 0, .slice none 0 0, .int .i64 0] from rfl] at h1 hb1 hr4
  have e1 : (w.alloc (.cells #[.int .u8 0, .int .u8 0, .int .i64 0, .int .i64 0, .int .i64 0, .bool false, .int .u8 0, .int .i64 0, .int .i64 0, .int .i64 0, .slice none 0 0, .slice none 0 0, .int .i64 0] 60)).heap.size = w.heap.size + 1 := World.size_alloc _ _
  generalize w.alloc (.cells #[.int .u8 0, .int .u8 0, .int .i64 0, .int .i64 0, .int .i64 0, .bool false, .int .u8 0, .int .i64 0, .int .i64 0, .int .i64 0, .slice none 0 0, .slice none 0 0, .int .i64 0] 60) = W1 at *
  have ht5 := al_four W1 tk
  have hb2 : Below W1.heap.size W1 (W1.alloc (.cells #[.int .u8 tk.k, .string (mkS tk.s), .int .i64 tk.n, .int .i64 tk.ln] 111)) := (Below.refl _ _).alloc (Nat.le_refl _) _
  have h2 := h1.below hb2
  have hr42 := below_row hb2 hr4 hr4.lt
  have e2 : (W1.alloc (.cells #[.int .u8 tk.k, .string (mkS tk.s), .int .i64 tk.n, .int .i64 tk.ln] 111)).heap.size = W1.heap.size + 1 := World.size_alloc _ _
  generalize W1.alloc (.cells #[.int .u8 tk.k, .string (mkS tk.s), .int .i64 tk.n, .int .i64 tk.ln] 111) = W2 at *
  have hb3 : Below W2.heap.size W2 (W2.alloc (.cells #[.int .u8 1, .int .u8 0, .int .i64 0, .int .i64 0, .int .i64 0, .bool false, .int .u8 0, .int .i64 0, .int .i64 0, .int .i64 0, .slice none 0 0, .slice none 0 0, .int .i64 tk.ln] 60)) := (Below.refl _ _).alloc (Nat.le_refl _) _
  have h3 := h2.below hb3
  have hr43 := below_row hb3 hr42 hr42.lt
  have ht53 := ht5.keep (hb3.block W1.heap.size (by omega))
  have hr63 := st_row (k := 1) (i := i0) (c := c0) (vb := .slice none 0 0) (ve := .slice none 0 0) (ln := tk.ln) (heap_alloc_new W2 (.cells #[.int .u8 1, .int .u8 0, .int .i64 0, .int .i64 0, .int .i64 0, .bool false, .int .u8 0, .int .i64 0, .int .i64 0, .int .i64 0, .slice none 0 0, .slice none 0 0, .int .i64 tk.ln] 60))
  have hg3 := grown_of_below ((hb1.trans (hb2.mono hb1.size)).trans (hb3.mono (Nat.le_trans hb1.size hb2.size))) (some gp)
  have e3 : w.heap.size < W2.heap.size ∧ w.heap.size + 2 = W2.heap.size ∧ w.heap.size + 1 = W1.heap.size := by omega
  generalize W2.alloc (.cells #[.int .u8 1, .int .u8 0, .int .i64 0, .int .i64 0, .int .i64 0, .bool false, .int .u8 0, .int .i64 0, .int .i64 0, .int .i64 0, .slice none 0 0, .slice none 0 0, .int .i64 tk.ln] 60) = W3 at *
  rw [show w.heap.size + 1 + 1 = W2.heap.size by omega, show w.heap.size + 1 = W1.heap.size by omega]
  clear hb1 hb2 hb3 hr4 hr42 h1 h2 ht5 e1 e2
  generalize W1.heap.size = g5 at *
  generalize W2.heap.size = g6 at *
  clear W1 W2
  obtain ⟨g4, hg4⟩ : ∃ g4, g4 = w.heap.size := ⟨_, rfl⟩
  rw [← hg4] at hr43 e3 ⊢
  have HG4 := Lib.hid hg4
  have HE3 := Lib.hid e3
  have H3 := Lib.hid h3
  have HR43 := Lib.hid hr43
  have HR63 := Lib.hid hr63
  have HG3 := Lib.hid hg3
  obtain ⟨g', o', c', q1', -⟩ := h3.ex
  have F3 : Hid (W3.cell? ⟨gp, 3, none⟩ = some (.int .i64 many)) := q1'.cell (show 3 < 4 by omega)
  have Z3 : Hid (W3.frozen? ⟨gp, 3, none⟩ = false) := q1'.frozen 3
  obtain ⟨-, T1', -, -⟩ := ht53
  have hN4 : g4 ≠ gp := by have := HW.out; omega
  have hN6 : g6 ≠ gp := by have := HW.out; omega
  have hN46 : g4 ≠ g6 := by omega
  have hN64 : g6 ≠ g4 := by omega
  have HN4 := Lib.hid hN4
  have HN6 := Lib.hid hN6
  have HN46 := Lib.hid hN46
  have HN64 := Lib.hid hN64
  have HG4B : Hid (B ≤ g4 ∧ B ≤ g6) := by have := HW.out; unfold Hid; omega
  have HG4W : Hid (w.heap.size ≤ g4 ∧ w.heap.size ≤ g6) := by unfold Hid; omega
  obtain ⟨s, hs⟩ : ∃ s, s = tk.s := ⟨_, rfl⟩
  rw [← hs] at hs8 T1' ⊢
  have HS : Hid (s = (hd l).s) := by rw [← HT.out]; exact hs
  have T1 := Lib.hid T1'
  clear hg4 e3 h3 hr43 hr63 hg3 T1' hN4 hN6 hN46 hN64 hs q1'
  have hmm := @run_makeMap Try.prog
  rw [hmm]
  go_simp
  rcases htest with htest | ⟨htest, htest2⟩
  all_goals
    cases hkb : look bareL s with
    | some ob =>
      have hku := bare_una hkb
      go_wp2_with (first
        | (refine wpList_ins rfl _ _ _ _ rfl 9 3 Try.underlying178 Try.underlying9 _ _ rfl hMC _ rfl _ rfl (by rfl) ?_; clear hMC t1 f3 z3; intro WC hMC; have hbC := chain3 hMA hMB hMC; have t1 := (hbC.cell (World.block_lt_of_cell? _ _ T1.out)).trans T1.out; have f3 := (hbC.cell (World.block_lt_of_cell? _ _ F3.out)).trans F3.out; have z3 := (hbC.frozen (World.block_lt_of_cell? _ _ F3.out)).trans Z3.out; clear hbC)
        | (refine wpList_ins rfl _ _ _ _ rfl 9 54 Try.underlying177 Try.underlying9 _ _ rfl hMB _ rfl _ rfl (by rfl) ?_; clear hMB; intro WB hMB)
        | (refine wpList_ins rfl _ _ _ _ rfl 9 54 Try.underlying177 Try.underlying9 _ _ rfl hMA _ rfl _ rfl (by rfl) ?_; clear hMA; intro WA hMA)
        | ((have _x := hMB); refine wpList_ins rfl _ _ _ _ rfl 9 3 Try.underlying178 Try.underlying9 _ _ rfl (MB.made _) _ rfl _ rfl (by rfl) ?_; clear _x; intro WC hMC; have hbC := chain3 hMA hMB hMC; have t1 := (hbC.cell (World.block_lt_of_cell? _ _ T1.out)).trans T1.out; have f3 := (hbC.cell (World.block_lt_of_cell? _ _ F3.out)).trans F3.out; have z3 := (hbC.frozen (World.block_lt_of_cell? _ _ F3.out)).trans Z3.out; clear hbC)
        | ((have _x := hMA); refine wpList_ins rfl _ _ _ _ rfl 9 54 Try.underlying177 Try.underlying9 _ _ rfl (MB.made _) _ rfl _ rfl (by rfl) ?_; clear _x; intro WB hMB)
        | (refine wpList_ins rfl _ _ _ _ rfl 9 54 Try.underlying177 Try.underlying9 _ _ rfl (MB.made _) _ rfl _ rfl (by rfl) ?_; intro WA hMA)
        | (refine wpList_lookN rfl _ _ _ rfl 9 54 .u8 Try.underlying177 Try.underlying9 zero_op _ bareL rfl (((hMA.to (by kernel_rfl)).below hMB.be).below hMC.be) (by decide) s hs8 rfl ?_; rw [show lookN bareL s = _ from hkb]; dsimp only [Option.getD_some, Option.isSome_some, Option.getD_none, Option.isSome_none])
        | (refine wpList_lookN rfl _ _ _ rfl 9 54 .u8 Try.underlying177 Try.underlying9 zero_op _ unaL rfl ((hMB.to (by kernel_rfl)).below hMC.be) (by decide) s hs8 rfl ?_; rw [show lookN unaL s = _ from hku]; dsimp only [Option.getD_some, Option.isSome_some, Option.getD_none, Option.isSome_none])
        | (refine wpList_lookV (by rfl) _ _ _ rfl 9 3 .i64 Try.underlying178 Try.underlying9 zero_int _ firL rfl (hMC.to (by kernel_rfl)) (by decide) s hs8 rfl ?_; rw [show lookN firL s = _ from hkf]; dsimp only [Option.getD_some, Option.isSome_some, Option.getD_none, Option.isSome_none]))
      have hbC := chain3 hMA hMB hMC
      have h7 := H3.out.below hbC
      have r4 := below_row hbC HR43.out HR43.out.lt
      have r6 := below_row hbC HR63.out HR63.out.lt
      have gC := nil_grown HG3.out (grown_of_below hbC (some gp))
      clear hMA hMB hMC t1 f3 z3 hbC hmm hs8
      have h8 := h7.setM (m := m1) (by omega)
      have g8 := grown_set gC (.inl rfl) (p := ⟨gp, 3, none⟩) (.int .i64 (m1 : Nat))
      have hgs : WC.grownBy (WC.setCell ⟨gp, 3, none⟩ (.int .i64 (m1 : Nat))) (some gp) := grown_set (grown_refl _ _) (.inl rfl) _
      have r48 := grown_row hgs r4 HN4.out
      have r68 := grown_row hgs r6 HN6.out
      clear h7 gC r4 r6 hgs
      have HM := Lib.hid (pfail_any h8 3 (by decide))
      have HHG := Lib.hid g8
      have HHR4 := Lib.hid r48
      have HHR6 := Lib.hid r68
      clear g8 r48 r68
      go_wp2_with fail
      refine HM.out.mono ?_
      rintro e W6 ⟨rfl, h9, hgn⟩
      have g9 := nil_grown HHG.out hgn
      have r49 := grown_row hgn HHR4.out HN4.out
      have r69 := grown_row hgn HHR6.out HN6.out
      clear HM HHG HHR4 HHR6
      clear h8 hgn
      have H6 := Lib.hid h9
      have HG := Lib.hid g9
      have HR6 := Lib.hid r69
      have HR4' := Lib.hid r49
      have HTB := Lib.hid (Tr.nil W6 (fun k => g6 < k))
      have HTE := Lib.hid (Tr.nil W6 (fun k => g6 < k))
      have a0 := r69.cell (show 0 < 13 by omega)
      have b0 := r49.cell (show 0 < 13 by omega)
      have z0 := r49.frozen 0
      have a1 := r69.cell (show 1 < 13 by omega)
      have b1 := r49.cell (show 1 < 13 by omega)
      have z1 := r49.frozen 1
      have a2 := r69.cell (show 2 < 13 by omega)
      have b2 := r49.cell (show 2 < 13 by omega)
      have z2 := r49.frozen 2
      have a3 := r69.cell (show 3 < 13 by omega)
      have b3 := r49.cell (show 3 < 13 by omega)
      have z3 := r49.frozen 3
      have a4 := r69.cell (show 4 < 13 by omega)
      have b4 := r49.cell (show 4 < 13 by omega)
      have z4 := r49.frozen 4
      have a5 := r69.cell (show 5 < 13 by omega)
      have b5 := r49.cell (show 5 < 13 by omega)
      have z5 := r49.frozen 5
      have a6 := r69.cell (show 6 < 13 by omega)
      have b6 := r49.cell (show 6 < 13 by omega)
      have z6 := r49.frozen 6
      have a7 := r69.cell (show 7 < 13 by omega)
      have b7 := r49.cell (show 7 < 13 by omega)
      have z7 := r49.frozen 7
      have a8 := r69.cell (show 8 < 13 by omega)
      have b8 := r49.cell (show 8 < 13 by omega)
      have z8 := r49.frozen 8
      have a9 := r69.cell (show 9 < 13 by omega)
      have b9 := r49.cell (show 9 < 13 by omega)
      have z9 := r49.frozen 9
      have a10 := r69.cell (show 10 < 13 by omega)
      have b10 := r49.cell (show 10 < 13 by omega)
      have z10 := r49.frozen 10
      have a11 := r69.cell (show 11 < 13 by omega)
      have b11 := r49.cell (show 11 < 13 by omega)
      have z11 := r49.frozen 11
      have a12 := r69.cell (show 12 < 13 by omega)
      have b12 := r49.cell (show 12 < 13 by omega)
      have z12 := r49.frozen 12
      dsimp only [stF, i0, c0] at a0 b0 a1 b1 a2 b2 a3 b3 a4 b4 a5 b5 a6 b6 a7 b7 a8 b8 a9 b9 a10 b10 a11 b11 a12 b12
      clear h9 g9 r69 r49
      go_wp2_with fail
      (try simp only [Exit.inBlock, Exit.then])
      have hx0 := (grown_set (grown_set (grown_set (grown_set (grown_set (grown_set (grown_set (grown_set (grown_set (grown_set (grown_set (grown_set (grown_set (grown_refl W6 (some g4)) (.inl rfl) (p := ⟨g4, 0, none⟩) (.int .u8 (1 : Nat))) (.inl rfl) (p := ⟨g4, 1, none⟩) (.int .u8 (0 : Nat))) (.inl rfl) (p := ⟨g4, 2, none⟩) (.int .i64 0)) (.inl rfl) (p := ⟨g4, 3, none⟩) (.int .i64 0)) (.inl rfl) (p := ⟨g4, 4, none⟩) (.int .i64 0)) (.inl rfl) (p := ⟨g4, 5, none⟩) (.bool false)) (.inl rfl) (p := ⟨g4, 6, none⟩) (.int .u8 (0 : Nat))) (.inl rfl) (p := ⟨g4, 7, none⟩) (.int .i64 0)) (.inl rfl) (p := ⟨g4, 8, none⟩) (.int .i64 0)) (.inl rfl) (p := ⟨g4, 9, none⟩) (.int .i64 0)) (.inl rfl) (p := ⟨g4, 10, none⟩) (.slice none 0 0)) (.inl rfl) (p := ⟨g4, 11, none⟩) (.slice none 0 0)) (.inl rfl) (p := ⟨g4, 12, none⟩) (.int .i64 (tk.ln : Nat)))
      have hx1 := st_all 1 ⟨0, 0, 0, 0⟩ ⟨false, ⟨0, 0, 0, 0⟩⟩ (.slice none 0 0) (.slice none 0 0) ((tk.ln : Nat)) HR4'.out
      have hx2 := H6.out.kept (row := some g4) hx0 (fun k e => by injection e with e; subst e; exact HG4B.out.1)
      have hx3 := (grown_set (grown_set (grown_set (grown_set (grown_set (grown_set (grown_set (grown_set (grown_set (grown_set (grown_set (grown_set (grown_set HG.out (.inr HG4W.out.1) (p := ⟨g4, 0, none⟩) (.int .u8 (1 : Nat))) (.inr HG4W.out.1) (p := ⟨g4, 1, none⟩) (.int .u8 (0 : Nat))) (.inr HG4W.out.1) (p := ⟨g4, 2, none⟩) (.int .i64 0)) (.inr HG4W.out.1) (p := ⟨g4, 3, none⟩) (.int .i64 0)) (.inr HG4W.out.1) (p := ⟨g4, 4, none⟩) (.int .i64 0)) (.inr HG4W.out.1) (p := ⟨g4, 5, none⟩) (.bool false)) (.inr HG4W.out.1) (p := ⟨g4, 6, none⟩) (.int .u8 (0 : Nat))) (.inr HG4W.out.1) (p := ⟨g4, 7, none⟩) (.int .i64 0)) (.inr HG4W.out.1) (p := ⟨g4, 8, none⟩) (.int .i64 0)) (.inr HG4W.out.1) (p := ⟨g4, 9, none⟩) (.int .i64 0)) (.inr HG4W.out.1) (p := ⟨g4, 10, none⟩) (.slice none 0 0)) (.inr HG4W.out.1) (p := ⟨g4, 11, none⟩) (.slice none 0 0)) (.inr HG4W.out.1) (p := ⟨g4, 12, none⟩) (.int .i64 (tk.ln : Nat)))
      have hx4 := HTB.out.grown hx0 (fun k hk e => by injection e with e; have := HE3.out; have hk' : g6 < k := hk; omega)
      have hx5 := HTE.out.grown hx0 (fun k hk e => by injection e with e; have := HE3.out; have hk' : g6 < k := hk; omega)
      have hx4 := hx4.mono (S' := fun k => w.heap.size ≤ k) (fun k hk _ => by have := HG4.out; have := HE3.out; have hk' : g6 < k := hk; omega)
      have hx5 := hx5.mono (S' := fun k => w.heap.size ≤ k) (fun k hk _ => by have := HG4.out; have := HE3.out; have hk' : g6 < k := hk; omega)
      clear hx0
      dsimp only at hx1 hx2 hx3 hx4 hx5 ⊢
      generalize (World.setCell (World.setCell (World.setCell (World.setCell (World.setCell (World.setCell (World.setCell (World.setCell (World.setCell (World.setCell (World.setCell (World.setCell (World.setCell W6 ⟨g4, 0, none⟩ (.int .u8 (1 : Nat))) ⟨g4, 1, none⟩ (.int .u8 (0 : Nat))) ⟨g4, 2, none⟩ (.int .i64 0)) ⟨g4, 3, none⟩ (.int .i64 0)) ⟨g4, 4, none⟩ (.int .i64 0)) ⟨g4, 5, none⟩ (.bool false)) ⟨g4, 6, none⟩ (.int .u8 (0 : Nat))) ⟨g4, 7, none⟩ (.int .i64 0)) ⟨g4, 8, none⟩ (.int .i64 0)) ⟨g4, 9, none⟩ (.int .i64 0)) ⟨g4, 10, none⟩ (.slice none 0 0)) ⟨g4, 11, none⟩ (.slice none 0 0)) ⟨g4, 12, none⟩ (.int .i64 (tk.ln : Nat))) = W99 at hx1 hx2 hx3 hx4 hx5 ⊢
      refine bodyPost_ret (st_results rfl _ _ g4 rfl hx1) rfl ?_
      exact ⟨⟨1, ⟨0, 0, 0, 0⟩, ⟨false, ⟨0, 0, 0, 0⟩⟩, .nil, .nil, (tk.ln : Nat)⟩, .slice none 0 0, .slice none 0 0, l, _, m1, rfl, hx4, hx5, hx2, (fun e => by cases e), .err (st_long HK.out HL.out), hx3⟩
    | none =>
      cases hku : look unaL s with
      | some ou =>
        go_wp2_with (first
          | (refine wpList_ins rfl _ _ _ _ rfl 9 3 Try.underlying178 Try.underlying9 _ _ rfl hMC _ rfl _ rfl (by rfl) ?_; clear hMC t1 f3 z3; intro WC hMC; have hbC := chain3 hMA hMB hMC; have t1 := (hbC.cell (World.block_lt_of_cell? _ _ T1.out)).trans T1.out; have f3 := (hbC.cell (World.block_lt_of_cell? _ _ F3.out)).trans F3.out; have z3 := (hbC.frozen (World.block_lt_of_cell? _ _ F3.out)).trans Z3.out; clear hbC)
          | (refine wpList_ins rfl _ _ _ _ rfl 9 54 Try.underlying177 Try.underlying9 _ _ rfl hMB _ rfl _ rfl (by rfl) ?_; clear hMB; intro WB hMB)
          | (refine wpList_ins rfl _ _ _ _ rfl 9 54 Try.underlying177 Try.underlying9 _ _ rfl hMA _ rfl _ rfl (by rfl) ?_; clear hMA; intro WA hMA)
          | ((have _x := hMB); refine wpList_ins rfl _ _ _ _ rfl 9 3 Try.underlying178 Try.underlying9 _ _ rfl (MB.made _) _ rfl _ rfl (by rfl) ?_; clear _x; intro WC hMC; have hbC := chain3 hMA hMB hMC; have t1 := (hbC.cell (World.block_lt_of_cell? _ _ T1.out)).trans T1.out; have f3 := (hbC.cell (World.block_lt_of_cell? _ _ F3.out)).trans F3.out; have z3 := (hbC.frozen (World.block_lt_of_cell? _ _ F3.out)).trans Z3.out; clear hbC)
          | ((have _x := hMA); refine wpList_ins rfl _ _ _ _ rfl 9 54 Try.underlying177 Try.underlying9 _ _ rfl (MB.made _) _ rfl _ rfl (by rfl) ?_; clear _x; intro WB hMB)
          | (refine wpList_ins rfl _ _ _ _ rfl 9 54 Try.underlying177 Try.underlying9 _ _ rfl (MB.made _) _ rfl _ rfl (by rfl) ?_; intro WA hMA)
          | (refine wpList_lookN rfl _ _ _ rfl 9 54 .u8 Try.underlying177 Try.underlying9 zero_op _ bareL rfl (((hMA.to (by kernel_rfl)).below hMB.be).below hMC.be) (by decide) s hs8 rfl ?_; rw [show lookN bareL s = _ from hkb]; dsimp only [Option.getD_some, Option.isSome_some, Option.getD_none, Option.isSome_none])
          | (refine wpList_lookN rfl _ _ _ rfl 9 54 .u8 Try.underlying177 Try.underlying9 zero_op _ unaL rfl ((hMB.to (by kernel_rfl)).below hMC.be) (by decide) s hs8 rfl ?_; rw [show lookN unaL s = _ from hku]; dsimp only [Option.getD_some, Option.isSome_some, Option.getD_none, Option.isSome_none])
          | (refine wpList_lookV (by rfl) _ _ _ rfl 9 3 .i64 Try.underlying178 Try.underlying9 zero_int _ firL rfl (hMC.to (by kernel_rfl)) (by decide) s hs8 rfl ?_; rw [show lookN firL s = _ from hkf]; dsimp only [Option.getD_some, Option.isSome_some, Option.getD_none, Option.isSome_none]))
        have hbC := chain3 hMA hMB hMC
        have h7 := H3.out.below hbC
        have r4 := below_row hbC HR43.out HR43.out.lt
        have r6 := below_row hbC HR63.out HR63.out.lt
        have gC := nil_grown HG3.out (grown_of_below hbC (some gp))
        clear hMA hMB hMC t1 f3 z3 hbC hmm hs8
        have h8 := h7.setM (m := m1) (by omega)
        have g8 := grown_set gC (.inl rfl) (p := ⟨gp, 3, none⟩) (.int .i64 (m1 : Nat))
        have hgs : WC.grownBy (WC.setCell ⟨gp, 3, none⟩ (.int .i64 (m1 : Nat))) (some gp) := grown_set (grown_refl _ _) (.inl rfl) _
        have r48 := grown_row hgs r4 HN4.out
        have r68 := grown_row hgs r6 HN6.out
        clear h7 gC r4 r6 hgs
        have HM := Lib.hid (pfail_any h8 3 (by decide))
        have HHG := Lib.hid g8
        have HHR4 := Lib.hid r48
        have HHR6 := Lib.hid r68
        clear g8 r48 r68
        go_wp2_with fail
        refine HM.out.mono ?_
        rintro e W6 ⟨rfl, h9, hgn⟩
        have g9 := nil_grown HHG.out hgn
        have r49 := grown_row hgn HHR4.out HN4.out
        have r69 := grown_row hgn HHR6.out HN6.out
        clear HM HHG HHR4 HHR6
        clear h8 hgn
        have H6 := Lib.hid h9
        have HG := Lib.hid g9
        have HR6 := Lib.hid r69
        have HR4' := Lib.hid r49
        have HTB := Lib.hid (Tr.nil W6 (fun k => g6 < k))
        have HTE := Lib.hid (Tr.nil W6 (fun k => g6 < k))
        have a0 := r69.cell (show 0 < 13 by omega)
        have b0 := r49.cell (show 0 < 13 by omega)
        have z0 := r49.frozen 0
        have a1 := r69.cell (show 1 < 13 by omega)
        have b1 := r49.cell (show 1 < 13 by omega)
        have z1 := r49.frozen 1
        have a2 := r69.cell (show 2 < 13 by omega)
        have b2 := r49.cell (show 2 < 13 by omega)
        have z2 := r49.frozen 2
        have a3 := r69.cell (show 3 < 13 by omega)
        have b3 := r49.cell (show 3 < 13 by omega)
        have z3 := r49.frozen 3
        have a4 := r69.cell (show 4 < 13 by omega)
        have b4 := r49.cell (show 4 < 13 by omega)
        have z4 := r49.frozen 4
        have a5 := r69.cell (show 5 < 13 by omega)
        have b5 := r49.cell (show 5 < 13 by omega)
        have z5 := r49.frozen 5
        have a6 := r69.cell (show 6 < 13 by omega)
        have b6 := r49.cell (show 6 < 13 by omega)
        have z6 := r49.frozen 6
        have a7 := r69.cell (show 7 < 13 by omega)
        have b7 := r49.cell (show 7 < 13 by omega)
        have z7 := r49.frozen 7
        have a8 := r69.cell (show 8 < 13 by omega)
        have b8 := r49.cell (show 8 < 13 by omega)
        have z8 := r49.frozen 8
        have a9 := r69.cell (show 9 < 13 by omega)
        have b9 := r49.cell (show 9 < 13 by omega)
        have z9 := r49.frozen 9
        have a10 := r69.cell (show 10 < 13 by omega)
        have b10 := r49.cell (show 10 < 13 by omega)
        have z10 := r49.frozen 10
        have a11 := r69.cell (show 11 < 13 by omega)
        have b11 := r49.cell (show 11 < 13 by omega)
        have z11 := r49.frozen 11
        have a12 := r69.cell (show 12 < 13 by omega)
        have b12 := r49.cell (show 12 < 13 by omega)
        have z12 := r49.frozen 12
        dsimp only [stF, i0, c0] at a0 b0 a1 b1 a2 b2 a3 b3 a4 b4 a5 b5 a6 b6 a7 b7 a8 b8 a9 b9 a10 b10 a11 b11 a12 b12
        clear h9 g9 r69 r49
        go_wp2_with fail
        (try simp only [Exit.inBlock, Exit.then])
        have hx0 := (grown_set (grown_set (grown_set (grown_set (grown_set (grown_set (grown_set (grown_set (grown_set (grown_set (grown_set (grown_set (grown_set (grown_refl W6 (some g4)) (.inl rfl) (p := ⟨g4, 0, none⟩) (.int .u8 (1 : Nat))) (.inl rfl) (p := ⟨g4, 1, none⟩) (.int .u8 (0 : Nat))) (.inl rfl) (p := ⟨g4, 2, none⟩) (.int .i64 0)) (.inl rfl) (p := ⟨g4, 3, none⟩) (.int .i64 0)) (.inl rfl) (p := ⟨g4, 4, none⟩) (.int .i64 0)) (.inl rfl) (p := ⟨g4, 5, none⟩) (.bool false)) (.inl rfl) (p := ⟨g4, 6, none⟩) (.int .u8 (0 : Nat))) (.inl rfl) (p := ⟨g4, 7, none⟩) (.int .i64 0)) (.inl rfl) (p := ⟨g4, 8, none⟩) (.int .i64 0)) (.inl rfl) (p := ⟨g4, 9, none⟩) (.int .i64 0)) (.inl rfl) (p := ⟨g4, 10, none⟩) (.slice none 0 0)) (.inl rfl) (p := ⟨g4, 11, none⟩) (.slice none 0 0)) (.inl rfl) (p := ⟨g4, 12, none⟩) (.int .i64 (tk.ln : Nat)))
        have hx1 := st_all 1 ⟨0, 0, 0, 0⟩ ⟨false, ⟨0, 0, 0, 0⟩⟩ (.slice none 0 0) (.slice none 0 0) ((tk.ln : Nat)) HR4'.out
        have hx2 := H6.out.kept (row := some g4) hx0 (fun k e => by injection e with e; subst e; exact HG4B.out.1)
        have hx3 := (grown_set (grown_set (grown_set (grown_set (grown_set (grown_set (grown_set (grown_set (grown_set (grown_set (grown_set (grown_set (grown_set HG.out (.inr HG4W.out.1) (p := ⟨g4, 0, none⟩) (.int .u8 (1 : Nat))) (.inr HG4W.out.1) (p := ⟨g4, 1, none⟩) (.int .u8 (0 : Nat))) (.inr HG4W.out.1) (p := ⟨g4, 2, none⟩) (.int .i64 0)) (.inr HG4W.out.1) (p := ⟨g4, 3, none⟩) (.int .i64 0)) (.inr HG4W.out.1) (p := ⟨g4, 4, none⟩) (.int .i64 0)) (.inr HG4W.out.1) (p := ⟨g4, 5, none⟩) (.bool false)) (.inr HG4W.out.1) (p := ⟨g4, 6, none⟩) (.int .u8 (0 : Nat))) (.inr HG4W.out.1) (p := ⟨g4, 7, none⟩) (.int .i64 0)) (.inr HG4W.out.1) (p := ⟨g4, 8, none⟩) (.int .i64 0)) (.inr HG4W.out.1) (p := ⟨g4, 9, none⟩) (.int .i64 0)) (.inr HG4W.out.1) (p := ⟨g4, 10, none⟩) (.slice none 0 0)) (.inr HG4W.out.1) (p := ⟨g4, 11, none⟩) (.slice none 0 0)) (.inr HG4W.out.1) (p := ⟨g4, 12, none⟩) (.int .i64 (tk.ln : Nat)))
        have hx4 := HTB.out.grown hx0 (fun k hk e => by injection e with e; have := HE3.out; have hk' : g6 < k := hk; omega)
        have hx5 := HTE.out.grown hx0 (fun k hk e => by injection e with e; have := HE3.out; have hk' : g6 < k := hk; omega)
        have hx4 := hx4.mono (S' := fun k => w.heap.size ≤ k) (fun k hk _ => by have := HG4.out; have := HE3.out; have hk' : g6 < k := hk; omega)
        have hx5 := hx5.mono (S' := fun k => w.heap.size ≤ k) (fun k hk _ => by have := HG4.out; have := HE3.out; have hk' : g6 < k := hk; omega)
        clear hx0
        dsimp only at hx1 hx2 hx3 hx4 hx5 ⊢
        generalize (World.setCell (World.setCell (World.setCell (World.setCell (World.setCell (World.setCell (World.setCell (World.setCell (World.setCell (World.setCell (World.setCell (World.setCell (World.setCell W6 ⟨g4, 0, none⟩ (.int .u8 (1 : Nat))) ⟨g4, 1, none⟩ (.int .u8 (0 : Nat))) ⟨g4, 2, none⟩ (.int .i64 0)) ⟨g4, 3, none⟩ (.int .i64 0)) ⟨g4, 4, none⟩ (.int .i64 0)) ⟨g4, 5, none⟩ (.bool false)) ⟨g4, 6, none⟩ (.int .u8 (0 : Nat))) ⟨g4, 7, none⟩ (.int .i64 0)) ⟨g4, 8, none⟩ (.int .i64 0)) ⟨g4, 9, none⟩ (.int .i64 0)) ⟨g4, 10, none⟩ (.slice none 0 0)) ⟨g4, 11, none⟩ (.slice none 0 0)) ⟨g4, 12, none⟩ (.int .i64 (tk.ln : Nat))) = W99 at hx1 hx2 hx3 hx4 hx5 ⊢
        refine bodyPost_ret (st_results rfl _ _ g4 rfl hx1) rfl ?_
        exact ⟨⟨1, ⟨0, 0, 0, 0⟩, ⟨false, ⟨0, 0, 0, 0⟩⟩, .nil, .nil, (tk.ln : Nat)⟩, .slice none 0 0, .slice none 0 0, l, _, m1, rfl, hx4, hx5, hx2, (fun e => by cases e), .err (st_long HK.out HL.out), hx3⟩
      | none =>
        cases hkf : look firL s with
        | some kf =>
          have hkf1 := fir_one hkf
          subst hkf1
          go_wp2_with (first
            | (refine wpList_ins rfl _ _ _ _ rfl 9 3 Try.underlying178 Try.underlying9 _ _ rfl hMC _ rfl _ rfl (by rfl) ?_; clear hMC t1 f3 z3; intro WC hMC; have hbC := chain3 hMA hMB hMC; have t1 := (hbC.cell (World.block_lt_of_cell? _ _ T1.out)).trans T1.out; have f3 := (hbC.cell (World.block_lt_of_cell? _ _ F3.out)).trans F3.out; have z3 := (hbC.frozen (World.block_lt_of_cell? _ _ F3.out)).trans Z3.out; clear hbC)
            | (refine wpList_ins rfl _ _ _ _ rfl 9 54 Try.underlying177 Try.underlying9 _ _ rfl hMB _ rfl _ rfl (by rfl) ?_; clear hMB; intro WB hMB)
            | (refine wpList_ins rfl _ _ _ _ rfl 9 54 Try.underlying177 Try.underlying9 _ _ rfl hMA _ rfl _ rfl (by rfl) ?_; clear hMA; intro WA hMA)
            | ((have _x := hMB); refine wpList_ins rfl _ _ _ _ rfl 9 3 Try.underlying178 Try.underlying9 _ _ rfl (MB.made _) _ rfl _ rfl (by rfl) ?_; clear _x; intro WC hMC; have hbC := chain3 hMA hMB hMC; have t1 := (hbC.cell (World.block_lt_of_cell? _ _ T1.out)).trans T1.out; have f3 := (hbC.cell (World.block_lt_of_cell? _ _ F3.out)).trans F3.out; have z3 := (hbC.frozen (World.block_lt_of_cell? _ _ F3.out)).trans Z3.out; clear hbC)
            | ((have _x := hMA); refine wpList_ins rfl _ _ _ _ rfl 9 54 Try.underlying177 Try.underlying9 _ _ rfl (MB.made _) _ rfl _ rfl (by rfl) ?_; clear _x; intro WB hMB)
            | (refine wpList_ins rfl _ _ _ _ rfl 9 54 Try.underlying177 Try.underlying9 _ _ rfl (MB.made _) _ rfl _ rfl (by rfl) ?_; intro WA hMA)
            | (refine wpList_lookN rfl _ _ _ rfl 9 54 .u8 Try.underlying177 Try.underlying9 zero_op _ bareL rfl (((hMA.to (by kernel_rfl)).below hMB.be).below hMC.be) (by decide) s hs8 rfl ?_; rw [show lookN bareL s = _ from hkb]; dsimp only [Option.getD_some, Option.isSome_some, Option.getD_none, Option.isSome_none])
            | (refine wpList_lookN rfl _ _ _ rfl 9 54 .u8 Try.underlying177 Try.underlying9 zero_op _ unaL rfl ((hMB.to (by kernel_rfl)).below hMC.be) (by decide) s hs8 rfl ?_; rw [show lookN unaL s = _ from hku]; dsimp only [Option.getD_some, Option.isSome_some, Option.getD_none, Option.isSome_none])
            | (refine wpList_lookV (by rfl) _ _ _ rfl 9 3 .i64 Try.underlying178 Try.underlying9 zero_int _ firL rfl (hMC.to (by kernel_rfl)) (by decide) s hs8 rfl ?_; rw [show lookN firL s = _ from hkf]; dsimp only [Option.getD_some, Option.isSome_some, Option.getD_none, Option.isSome_none]))
          have hbC := chain3 hMA hMB hMC
          have h7 := H3.out.below hbC
          have r4 := below_row hbC HR43.out HR43.out.lt
          have r6 := below_row hbC HR63.out HR63.out.lt
          have gC := nil_grown HG3.out (grown_of_below hbC (some gp))
          clear hMA hMB hMC t1 f3 z3 hbC hmm hs8
          have h8 := h7.setM (m := m1) (by omega)
          have g8 := grown_set gC (.inl rfl) (p := ⟨gp, 3, none⟩) (.int .i64 (m1 : Nat))
          have hgs : WC.grownBy (WC.setCell ⟨gp, 3, none⟩ (.int .i64 (m1 : Nat))) (some gp) := grown_set (grown_refl _ _) (.inl rfl) _
          have r48 := grown_row hgs r4 HN4.out
          have r68 := grown_row hgs r6 HN6.out
          clear h7 gC r4 r6 hgs
          have HM := Lib.hid (pfail_any h8 3 (by decide))
          have HHG := Lib.hid g8
          have HHR4 := Lib.hid r48
          have HHR6 := Lib.hid r68
          clear g8 r48 r68
          go_wp2_with fail
          refine HM.out.mono ?_
          rintro e W6 ⟨rfl, h9, hgn⟩
          have g9 := nil_grown HHG.out hgn
          have r49 := grown_row hgn HHR4.out HN4.out
          have r69 := grown_row hgn HHR6.out HN6.out
          clear HM HHG HHR4 HHR6
          clear h8 hgn
          have H6 := Lib.hid h9
          have HG := Lib.hid g9
          have HR6 := Lib.hid r69
          have HR4' := Lib.hid r49
          have HTB := Lib.hid (Tr.nil W6 (fun k => g6 < k))
          have HTE := Lib.hid (Tr.nil W6 (fun k => g6 < k))
          have a0 := r69.cell (show 0 < 13 by omega)
          have b0 := r49.cell (show 0 < 13 by omega)
          have z0 := r49.frozen 0
          have a1 := r69.cell (show 1 < 13 by omega)
          have b1 := r49.cell (show 1 < 13 by omega)
          have z1 := r49.frozen 1
          have a2 := r69.cell (show 2 < 13 by omega)
          have b2 := r49.cell (show 2 < 13 by omega)
          have z2 := r49.frozen 2
          have a3 := r69.cell (show 3 < 13 by omega)
          have b3 := r49.cell (show 3 < 13 by omega)
          have z3 := r49.frozen 3
          have a4 := r69.cell (show 4 < 13 by omega)
          have b4 := r49.cell (show 4 < 13 by omega)
          have z4 := r49.frozen 4
          have a5 := r69.cell (show 5 < 13 by omega)
          have b5 := r49.cell (show 5 < 13 by omega)
          have z5 := r49.frozen 5
          have a6 := r69.cell (show 6 < 13 by omega)
          have b6 := r49.cell (show 6 < 13 by omega)
          have z6 := r49.frozen 6
          have a7 := r69.cell (show 7 < 13 by omega)
          have b7 := r49.cell (show 7 < 13 by omega)
          have z7 := r49.frozen 7
          have a8 := r69.cell (show 8 < 13 by omega)
          have b8 := r49.cell (show 8 < 13 by omega)
          have z8 := r49.frozen 8
          have a9 := r69.cell (show 9 < 13 by omega)
          have b9 := r49.cell (show 9 < 13 by omega)
          have z9 := r49.frozen 9
          have a10 := r69.cell (show 10 < 13 by omega)
          have b10 := r49.cell (show 10 < 13 by omega)
          have z10 := r49.frozen 10
          have a11 := r69.cell (show 11 < 13 by omega)
          have b11 := r49.cell (show 11 < 13 by omega)
          have z11 := r49.frozen 11
          have a12 := r69.cell (show 12 < 13 by omega)
          have b12 := r49.cell (show 12 < 13 by omega)
          have z12 := r49.frozen 12
          dsimp only [stF, i0, c0] at a0 b0 a1 b1 a2 b2 a3 b3 a4 b4 a5 b5 a6 b6 a7 b7 a8 b8 a9 b9 a10 b10 a11 b11 a12 b12
          clear h9 g9 r69 r49
          go_wp2_with fail
          (try simp only [Exit.inBlock, Exit.then])
          have hx0 := (grown_set (grown_set (grown_set (grown_set (grown_set (grown_set (grown_set (grown_set (grown_set (grown_set (grown_set (grown_set (grown_set (grown_refl W6 (some g4)) (.inl rfl) (p := ⟨g4, 0, none⟩) (.int .u8 (1 : Nat))) (.inl rfl) (p := ⟨g4, 1, none⟩) (.int .u8 (0 : Nat))) (.inl rfl) (p := ⟨g4, 2, none⟩) (.int .i64 0)) (.inl rfl) (p := ⟨g4, 3, none⟩) (.int .i64 0)) (.inl rfl) (p := ⟨g4, 4, none⟩) (.int .i64 0)) (.inl rfl) (p := ⟨g4, 5, none⟩) (.bool false)) (.inl rfl) (p := ⟨g4, 6, none⟩) (.int .u8 (0 : Nat))) (.inl rfl) (p := ⟨g4, 7, none⟩) (.int .i64 0)) (.inl rfl) (p := ⟨g4, 8, none⟩) (.int .i64 0)) (.inl rfl) (p := ⟨g4, 9, none⟩) (.int .i64 0)) (.inl rfl) (p := ⟨g4, 10, none⟩) (.slice none 0 0)) (.inl rfl) (p := ⟨g4, 11, none⟩) (.slice none 0 0)) (.inl rfl) (p := ⟨g4, 12, none⟩) (.int .i64 (tk.ln : Nat)))
          have hx1 := st_all 1 ⟨0, 0, 0, 0⟩ ⟨false, ⟨0, 0, 0, 0⟩⟩ (.slice none 0 0) (.slice none 0 0) ((tk.ln : Nat)) HR4'.out
          have hx2 := H6.out.kept (row := some g4) hx0 (fun k e => by injection e with e; subst e; exact HG4B.out.1)
          have hx3 := (grown_set (grown_set (grown_set (grown_set (grown_set (grown_set (grown_set (grown_set (grown_set (grown_set (grown_set (grown_set (grown_set HG.out (.inr HG4W.out.1) (p := ⟨g4, 0, none⟩) (.int .u8 (1 : Nat))) (.inr HG4W.out.1) (p := ⟨g4, 1, none⟩) (.int .u8 (0 : Nat))) (.inr HG4W.out.1) (p := ⟨g4, 2, none⟩) (.int .i64 0)) (.inr HG4W.out.1) (p := ⟨g4, 3, none⟩) (.int .i64 0)) (.inr HG4W.out.1) (p := ⟨g4, 4, none⟩) (.int .i64 0)) (.inr HG4W.out.1) (p := ⟨g4, 5, none⟩) (.bool false)) (.inr HG4W.out.1) (p := ⟨g4, 6, none⟩) (.int .u8 (0 : Nat))) (.inr HG4W.out.1) (p := ⟨g4, 7, none⟩) (.int .i64 0)) (.inr HG4W.out.1) (p := ⟨g4, 8, none⟩) (.int .i64 0)) (.inr HG4W.out.1) (p := ⟨g4, 9, none⟩) (.int .i64 0)) (.inr HG4W.out.1) (p := ⟨g4, 10, none⟩) (.slice none 0 0)) (.inr HG4W.out.1) (p := ⟨g4, 11, none⟩) (.slice none 0 0)) (.inr HG4W.out.1) (p := ⟨g4, 12, none⟩) (.int .i64 (tk.ln : Nat)))
          have hx4 := HTB.out.grown hx0 (fun k hk e => by injection e with e; have := HE3.out; have hk' : g6 < k := hk; omega)
          have hx5 := HTE.out.grown hx0 (fun k hk e => by injection e with e; have := HE3.out; have hk' : g6 < k := hk; omega)
          have hx4 := hx4.mono (S' := fun k => w.heap.size ≤ k) (fun k hk _ => by have := HG4.out; have := HE3.out; have hk' : g6 < k := hk; omega)
          have hx5 := hx5.mono (S' := fun k => w.heap.size ≤ k) (fun k hk _ => by have := HG4.out; have := HE3.out; have hk' : g6 < k := hk; omega)
          clear hx0
          dsimp only at hx1 hx2 hx3 hx4 hx5 ⊢
          generalize (World.setCell (World.setCell (World.setCell (World.setCell (World.setCell (World.setCell (World.setCell (World.setCell (World.setCell (World.setCell (World.setCell (World.setCell (World.setCell W6 ⟨g4, 0, none⟩ (.int .u8 (1 : Nat))) ⟨g4, 1, none⟩ (.int .u8 (0 : Nat))) ⟨g4, 2, none⟩ (.int .i64 0)) ⟨g4, 3, none⟩ (.int .i64 0)) ⟨g4, 4, none⟩ (.int .i64 0)) ⟨g4, 5, none⟩ (.bool false)) ⟨g4, 6, none⟩ (.int .u8 (0 : Nat))) ⟨g4, 7, none⟩ (.int .i64 0)) ⟨g4, 8, none⟩ (.int .i64 0)) ⟨g4, 9, none⟩ (.int .i64 0)) ⟨g4, 10, none⟩ (.slice none 0 0)) ⟨g4, 11, none⟩ (.slice none 0 0)) ⟨g4, 12, none⟩ (.int .i64 (tk.ln : Nat))) = W99 at hx1 hx2 hx3 hx4 hx5 ⊢
          refine bodyPost_ret (st_results rfl _ _ g4 rfl hx1) rfl ?_
          exact ⟨⟨1, ⟨0, 0, 0, 0⟩, ⟨false, ⟨0, 0, 0, 0⟩⟩, .nil, .nil, (tk.ln : Nat)⟩, .slice none 0 0, .slice none 0 0, l, _, m1, rfl, hx4, hx5, hx2, (fun e => by cases e), .err (st_long HK.out HL.out), hx3⟩
        | none => exact absurd HK.out (by unfold Known; rw [← HS.out, hkb, hku, hkf]; simp)
end
end Go.Proofs.Ythmpagehmfillaa
