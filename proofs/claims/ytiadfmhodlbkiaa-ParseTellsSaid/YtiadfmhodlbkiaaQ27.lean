/-
 THE DOCUMENT'S stmt: zero, swap, ~, a store. Conditions: a parser.
-/
import Derived.Test.YtiadfmhodlbkiaaQ26
namespace Go.Proofs.Ytiadfmhodlbkiaa
open Go.RowKit
set_option linter.unusedSimpArgs false
set_option linter.unusedVariables false
section
variable {w : World} {B gp gi : Nat} {l : List Tok} {b : Option Flt} {many : Nat}
set_option maxRecDepth 100000 in
set_option maxHeartbeats 40000000 in
theorem rstmt_zero (dp : Nat) (hd20 : dp ≤ 20) (blk : Blk) (h : RS B w gp l none many) (hm : many < 500) (hss : (hd l).s = [122, 101, 114, 111]) :
  Calls Try.prog 77 #[.pointer (some ⟨gp, 0, none⟩), .int .i64 dp] w (RStPost (stmt false blk) B gp w l many) := by
 have HKN : Hid (Known (hd l).s) := by unfold Hid; rw [hss]; exact (known_mem _).2 (by decide)
 have HK4 : Hid ((hd l).k ≠ 4) := (h.tl.hd_s (by rw [hss]; decide)).1
 have hkk : (hd l).k = 1 := wordk h.tl.hd_ok (by rw [hss]; decide) (by rw [hss]; decide)
 have HSS := Lib.hid hss
 clear hss
 obtain ⟨m1, hm1⟩ : ∃ m1, m1 = many + 1 := ⟨_, rfl⟩
 have hw1 : IntKind.i64.wrap ((many : Int) + 1) = (m1 : Int) := by rw [IntKind.wrap_i64]; omega; all_goals omega
 have hm501 : m1 ≤ 501 := by omega
 have HM1 := Lib.hid hm1
 have HM500 : Hid (m1 ≤ 500) := by unfold Hid; omega
 have htest : ¬ (500 : Int) < m1 := by omega
 have htest2 : ¬ (20 : Int) < dp := by omega
 have HL : Hid (¬ (500 < many + 1 ∨ false = true)) := by unfold Hid; simp; omega
 clear hm hd20 hm1
 have HKK := Lib.hid hkk
 clear hkk
 have hb1 : Below w.heap.size w (w.alloc zZ1) := (Below.refl _ _).alloc (Nat.le_refl _) _
 have h1 := h.below hb1
 have hr4 := st_row (k := 0) (i := i0) (c := c0) (vb := .slice none 0 0) (ve := .slice none 0 0) (ln := 0) (heap_alloc_new w zZ1)
 obtain ⟨tk, htk⟩ : ∃ tk, tk = hd l := ⟨_, rfl⟩
 have hN1 := rnow_any h1
 rw [← htk] at hN1
 have HN1 := Lib.hid hN1
 have HW := Lib.hid (And.intro h.bw h.bp)
 have HOK : Hid (TokOk tk) := by rw [htk]; exact h.tl.hd_ok
 have H1 := Lib.hid h1
 have HB1 := Lib.hid hb1
 have HR4 := Lib.hid hr4
 have HT := Lib.hid htk
 have hf3 := tok_f3
 have e1 : (w.alloc zZ1).heap.size = w.heap.size + 1 := World.size_alloc _ _
 have HE1 := Lib.hid e1
 clear h htk h1 hb1 hr4 hN1 e1
 go_enter Try.func77, Try.ntmps77
 go_wp2_with fail
 have hgg := HE1.out
 have hp := H1.out
 have r4 := HR4.out
 have hbw := HB1.out
 have HN1' := HN1.out
 clear H1 HR4 HB1 HN1 HE1
 generalize w.alloc zZ1 = W1 at *
 obtain ⟨g4, hg4⟩ : ∃ g4, g4 = w.heap.size := ⟨_, rfl⟩
 rw [← hg4] at r4 hgg ⊢
 have HG4 := Lib.hid hg4
 have HH := Lib.hid (And.intro hp (And.intro r4 (And.intro hbw hgg)))
 clear hp r4 hbw hgg hg4
 refine HN1'.mono ?_
 rintro e Wa ⟨rfl, hba⟩
 clear HN1'
 have hba2 : Below Wa.heap.size Wa (Wa.alloc (zZ3 tk)) := (Below.refl _ _).alloc (Nat.le_refl _) _
 have h2 := (HH.out.1.below hba).below hba2
 have hN2 := rnow_any h2
 rw [← HT.out] at hN2
 have HN2x := Lib.hid hN2
 have HP2 := Lib.hid h2
 have R42 := Lib.hid (ze hba2 (ze hba HH.out.2.1 HH.out.2.1.lt) (ze hba HH.out.2.1 HH.out.2.1.lt).lt)
 have R62 := Lib.hid (st_row (k := 1) (i := i0) (c := c0) (vb := .slice none 0 0) (ve := .slice none 0 0) (ln := tk.ln) (heap_alloc_new Wa (zZ3 tk)))
 have HGA := Lib.hid (zd (zb HH.out.2.2.1 (some gp)) (zd (zb hba (some gp)) (zb hba2 (some gp))))
 have HE3 : Hid (g4 < Wa.heap.size ∧ True ∧ True) := ⟨by have := HH.out.2.2.2; have := hba.size; omega, trivial, trivial⟩
 clear h2 hN2 hba hba2 HH
 go_wp2_with fail
 generalize Wa.alloc (zZ3 tk) = Wc at *
 obtain ⟨g6, hg6⟩ : ∃ g6, g6 = Wa.heap.size := ⟨_, rfl⟩
 rw [← hg6] at R62 HE3 ⊢
 clear hg6 hf3 Wa
 refine HN2x.out.mono ?_
 rintro e Wb ⟨rfl, hb⟩
 have hbt : Below Wb.heap.size Wb (Wb.alloc (.cells #[.int .u8 tk.k, .string (mkS tk.s), .int .i64 tk.n, .int .i64 tk.ln] 60)) := (Below.refl _ _).alloc (Nat.le_refl _) _
 have HP := Lib.hid ((HP2.out.below hb).below hbt)
 have R4 := Lib.hid (ze hbt (ze hb R42.out R42.out.lt) (ze hb R42.out R42.out.lt).lt)
 have R6 := Lib.hid (ze hbt (ze hb R62.out R62.out.lt) (ze hb R62.out R62.out.lt).lt)
 have G1 := Lib.hid (zd HGA.out (zd (zb hb (some gp)) (zb hbt (some gp))))
 obtain ⟨d0, d1, d2, d3⟩ := al_four Wb tk
 have HD1 := Lib.hid d1
 have HL5x : Hid (Wb.heap.size < (Wb.alloc (.cells #[.int .u8 tk.k, .string (mkS tk.s), .int .i64 tk.n, .int .i64 tk.ln] 60)).heap.size) := by unfold Hid; rw [World.size_alloc]; omega
 have HN46 : Hid (g4 ≠ g6) := by have := HE3.out; unfold Hid; omega
 have HN64 : Hid (g6 ≠ g4) := by have := HE3.out; unfold Hid; omega
 have HN4 : Hid (g4 ≠ gp) := by have := HW.out; have := HG4.out; unfold Hid; omega
 have HN6 : Hid (g6 ≠ gp) := by have := HW.out; have := HG4.out; have := HE3.out; unfold Hid; omega
 have HG4B : Hid (B ≤ g4 ∧ B ≤ g6) := by have := HW.out; have := HG4.out; have := HE3.out; unfold Hid; omega
 have HG4W : Hid (w.heap.size ≤ g4 ∧ w.heap.size ≤ g6) := by have := HG4.out; have := HE3.out; unfold Hid; omega
 have HN5 : Hid (Wb.heap.size ≠ gp ∧ Wb.heap.size ≠ g4 ∧ Wb.heap.size ≠ g6) := by
  have h1 := hb.size; have h2 := R62.out.lt; have := HW.out; have := HG4.out; have := HE3.out; unfold Hid; omega
 obtain ⟨s, hs⟩ : ∃ s, s = tk.s := ⟨_, rfl⟩
 have HS8 : Hid (∀ x ∈ s, x < 256) := by rw [hs]; exact HOK.out.1
 have HS : Hid (s = (hd l).s) := by rw [← HT.out]; exact hs
 clear HN2x HP2 R42 R62 HGA hb hbt d2 d3
 have KK : Hid (tk.k = 1) := by unfold Hid; rw [HT.out]; exact HKK.out
 have k1I : ((tk.k : Int) != 1) = false := by rw [show tk.k = 1 from KK.out]; rfl
 go_wp2_with fail
 try rw [show Wb.heap.size + 1 = (Wb.alloc (.cells #[.int .u8 tk.k, .string (mkS tk.s), .int .i64 tk.n, .int .i64 tk.ln] 60)).heap.size from (World.size_alloc _ _).symm]
 obtain ⟨g5, hg5⟩ : ∃ g5, g5 = Wb.heap.size := ⟨_, rfl⟩
 rw [← hs] at HD1 ⊢
 have T1 : Hid ((Wb.alloc (.cells #[.int .u8 tk.k, .string (mkS s), .int .i64 tk.n, .int .i64 tk.ln] 60)).cell? ⟨g5, 1, none⟩ = some (.string (mkS s))) := by rw [hg5]; exact HD1.out
 have HL5 := HL5x
 rw [← hs] at HP R4 R6 G1 HL5
 rw [← hg5] at HL5 HN5 ⊢
 generalize Wb.alloc (.cells #[.int .u8 tk.k, .string (mkS s), .int .i64 tk.n, .int .i64 tk.ln] 60) = Wd at *
 clear hg5 HD1 HL5x d0 d1 Wb hs
 clear k1I
 have hcn : ∀ i (hi : i < knownS.length), (Wd.alloc zZ5).cell? ⟨(World.heap Wd).size, i, none⟩ = some (.string (mkS knownS[i])) := fun i hi => by
  rw [cell_of_row _ _ _ _ _ _ (heap_alloc_new _ _)]
  match i, hi with
  | 0, _ => rfl
  | 1, _ => rfl
  | 2, _ => rfl
  | 3, _ => rfl
  | 4, _ => rfl
  | 5, _ => rfl
  | 6, _ => rfl
  | 7, _ => rfl
  | 8, _ => rfl
  | 9, _ => rfl
  | 10, _ => rfl
  | 11, _ => rfl
  | 12, _ => rfl
  | 13, _ => rfl
  | 14, _ => rfl
 have HCN := Lib.hid hcn
 have hb : Below (World.heap Wd).size Wd (Wd.alloc zZ5) := (Below.refl _ _).alloc (Nat.le_refl _) _
 replace HP := Lib.hid (HP.out.below hb)
 replace G1 := Lib.hid (zd G1.out (zb hb (some gp)))
 replace R4 := Lib.hid (ze hb R4.out R4.out.lt)
 replace R6 := Lib.hid (ze hb R6.out R6.out.lt)
 replace T1 := Lib.hid ((hb.cell (World.block_lt_of_cell? _ _ T1.out)).trans T1.out)
 replace HL5 : Hid (g5 < _) := Nat.lt_of_lt_of_le HL5.out hb.size
 clear hb
 clear hcn
 generalize World.alloc Wd zZ5 = X at *
 generalize (World.heap Wd).size = g7 at *
 have R0 : ∃ i : Nat, (Value.int .i64 0) = .int .i64 i ∧ i ≤ 15 ∧ (Value.bool false) = .bool (decide (s ∈ knownS.take i)) ∧ Below X.heap.size X X := ⟨0, rfl, by omega, by simp, Below.refl _ _⟩
 go_loopw [8, 9] (fun v8 v9 wr => ∃ i : Nat, v9 = .int .i64 i ∧ i ≤ 15 ∧ v8 = .bool (decide (s ∈ knownS.take i)) ∧ Below X.heap.size X wr) (fun _ v _ => 15 - (intOf v).toNat)
 case atStart => exact R0
 case round =>
  clear R0
  obtain ⟨i, rfl, hi, rfl, hb⟩ := hrel
  by_cases hl : i < 15
  · have hlI : (i : Int) < 15 := by omega
    have i0' : (0 : Int) ≤ i := by omega
    have iT : ((i : Int)).toNat = i := by omega
    have hwi : IntKind.i64.wrap ((i : Int) + 1) = ((i + 1 : Nat) : Int) := by rw [IntKind.wrap_i64]; omega; all_goals omega
    have hlk : i < knownS.length := hl
    have hci := (hb.cell (World.block_lt_of_cell? _ _ (HCN.out i hlk))).trans (HCN.out i hlk)
    obtain ⟨x, hx⟩ : ∃ x, x = knownS[i] := ⟨_, rfl⟩
    rw [← hx] at hci
    have htk : knownS.take (i + 1) = knownS.take i ++ [x] := by rw [hx, List.take_succ_eq_append_getElem hlk]
    have hx8 := knownS_b8 x (by rw [hx]; exact List.getElem_mem hlk)
    have HTK := Lib.hid htk
    have HB := Lib.hid hb
    by_cases hin : s ∈ knownS.take i
    · have hin2 : s ∈ knownS.take (i + 1) := by rw [htk]; exact List.mem_append_left _ hin
      rw [decide_eq_true hin]
      have HIN := Lib.hid hin2
      have HLL := Lib.hid hl
      clear hin hin2 htk hx hx8 hb hl
      go_wp2_with fail
      go_roundw
      case rel => exact ⟨i + 1, rfl, HLL.out, by rw [decide_eq_true HIN.out], HB.out⟩
      case measure => show 15 - (i + 1 : Nat) < 15 - i; have := HLL.out; omega
    · rw [decide_eq_false hin]
      have HI := Lib.hid (ris_any (HP.out.below hb) (mkS x) x rfl hx8.1 hx8.2)
      rw [← HS.out] at HI
      have HIN := Lib.hid hin
      have HLL := Lib.hid hl
      clear hin htk hx hx8 hb hl
      obtain ⟨r, hr⟩ : ∃ r, r = decide (s = x) := ⟨_, rfl⟩
      rw [← hr] at HI
      have HRR := Lib.hid hr
      clear hr
      go_wp2_with fail
      refine HI.out.mono ?_
      rintro e w3 ⟨rfl, hb3⟩
      have HB3 := Lib.hid (HB.out.trans (hb3.mono HB.out.size))
      clear hb3 HI
      go_wp2_with fail
      go_roundw
      case rel =>
       refine ⟨i + 1, rfl, HLL.out, ?_, HB3.out⟩
       rw [HRR.out, HTK.out]
       have hin := HIN.out
       congr 1
       rw [Bool.eq_iff_iff, decide_eq_true_eq, decide_eq_true_eq, List.mem_append, List.mem_singleton]
       exact ⟨fun e => .inr e, fun e => by rcases e with e | e; exact absurd e hin; exact e⟩
      case measure => show 15 - (i + 1 : Nat) < 15 - i; have := HLL.out; omega
  · have hlI : ¬ (i : Int) < 15 := by omega
    have hii : i = 15 := by omega
    subst hii
    rw [show knownS.take 15 = knownS from rfl]
    have HB := Lib.hid hb
    clear hb hl hi
    have hb := HB.out
    replace HP := Lib.hid (HP.out.below hb)
    replace G1 := Lib.hid (zd G1.out (zb hb (some gp)))
    replace R4 := Lib.hid (ze hb R4.out R4.out.lt)
    replace R6 := Lib.hid (ze hb R6.out R6.out.lt)
    replace T1 := Lib.hid ((hb.cell (World.block_lt_of_cell? _ _ T1.out)).trans T1.out)
    replace HL5 : Hid (g5 < _) := Nat.lt_of_lt_of_le HL5.out hb.size
    clear hb
    clear HB HCN
    rw [decide_eq_true ((known_mem _).1 (HS.out ▸ HKN.out))]
    obtain ⟨gq, cq0, Lq, kq, qq, -⟩ := HP.out.ex
    have f4 : wr.cell? ⟨gp, 4, none⟩ = some (.int .i64 many) := qq.cell (show 4 < 5 by omega)
    have z4x := qq.frozen 4
    clear qq
    have h8 := HP.out.setM (m := m1) hm501
    have g8 := za G1.out (.inl rfl) (p := ⟨gp, 4, none⟩) (.int .i64 (m1 : Nat))
    have hgs : wr.grownBy (wr.setCell ⟨gp, 4, none⟩ (.int .i64 (m1 : Nat))) (some gp) := za (zf _ _) (.inl rfl) _
    have r48 := zc hgs R4.out HN4.out
    have r68 := zc hgs R6.out HN6.out
    have t18 : World.cell? (wr.setCell ⟨gp, 4, none⟩ (.int .i64 (m1 : Nat))) ⟨g5, 1, none⟩ = some (.string (mkS s)) := (grown_cell hgs (p := ⟨g5, 1, none⟩) (World.block_lt_of_cell? _ _ T1.out) HN5.out.1).trans T1.out
    have n5p := HN5.out.1
    have n56 := HN5.out.2.2
    have n65 : g6 ≠ g5 := fun e => HN5.out.2.2 e.symm
    have n54 := HN5.out.2.1
    clear HP G1 R4 R6 T1 hgs
    have q0 : ((mkS s).toList == ([104, 97, 108, 116] : List UInt8)) = false := nW [104, 97, 108, 116] HS8.out (by decide) (by rw [HS.out, HSS.out]; decide)
    have q1 : ((mkS s).toList == ([104, 97, 115, 104] : List UInt8)) = false := nW [104, 97, 115, 104] HS8.out (by decide) (by rw [HS.out, HSS.out]; decide)
    have q2 : ((mkS s).toList == ([104, 97, 115, 104, 100] : List UInt8)) = false := nW [104, 97, 115, 104, 100] HS8.out (by decide) (by rw [HS.out, HSS.out]; decide)
    have q3 : ((mkS s).toList == ([111, 117, 116] : List UInt8)) = false := nW [111, 117, 116] HS8.out (by decide) (by rw [HS.out, HSS.out]; decide)
    have q4 : ((mkS s).toList == ([122, 101, 114, 111] : List UInt8)) = true := by rw [show ([122, 101, 114, 111] : List UInt8) = (mkS [122, 101, 114, 111]).toList from (by rw [Lib.toList_data]; rfl), mkS_eq HS8.out (by decide)]; exact decide_eq_true (by rw [HS.out, HSS.out])
    have q5 : ((mkS s).toList == ([115, 119, 97, 112] : List UInt8)) = false := nW [115, 119, 97, 112] HS8.out (by decide) (by rw [HS.out, HSS.out]; decide)
    have q6 : ((mkS s).toList == ([126] : List UInt8)) = false := nW [126] HS8.out (by decide) (by rw [HS.out, HSS.out]; decide)
    have q7 : ((mkS s).toList == ([114] : List UInt8)) = false := nW [114] HS8.out (by decide) (by rw [HS.out, HSS.out]; decide)
    have q8 : ((mkS s).toList == ([105, 102] : List UInt8)) = false := nW [105, 102] HS8.out (by decide) (by rw [HS.out, HSS.out]; decide)
    have q9 : ((mkS s).toList == ([100, 111] : List UInt8)) = false := nW [100, 111] HS8.out (by decide) (by rw [HS.out, HSS.out]; decide)
    have hgs := (za (zf (wr.setCell ⟨gp, 4, none⟩ (.int .i64 (m1 : Nat))) (some g6)) (.inl rfl) (p := ⟨g6, 1, none⟩) (.int .u8 6))
    have hA := h8.kept (row := some g6) hgs (fun k e => by injection e with e; subst e; exact HG4B.out.2)
    have gA := (za g8 (.inr HG4W.out.2) (p := ⟨g6, 1, none⟩) (.int .u8 6))
    have r4A := zc hgs r48 HN46.out
    have r6A : World.rowIs ((wr.setCell ⟨gp, 4, none⟩ (.int .i64 (m1 : Nat))).setCell ⟨g6, 1, none⟩ (.int .u8 6)) g6 75 13 (stF 1 ⟨6, 0, 0, 0⟩ c0 (.slice none 0 0) (.slice none 0 0) (tk.ln : Nat)) := st_setO 6 r68
    have y1 := r68.cell (show 1 < 13 by omega)
    have x1 := r68.frozen 1
    dsimp only [stF, i0, c0] at y1
    clear h8 g8 r48 r68 hgs
    have t1A : World.cell? ((wr.setCell ⟨gp, 4, none⟩ (.int .i64 (m1 : Nat))).setCell ⟨g6, 1, none⟩ (.int .u8 6)) ⟨g5, 1, none⟩ = some (.string (mkS s)) := (World.cell?_of_block (Below.heap_setCell _ ⟨g6, 1, none⟩ _ g5 n56)).trans t18
    have hst := rstep_any hA
    rw [if_neg HK4.out] at hst
    have HM := Lib.hid (hst)
    have HHG := Lib.hid gA
    have HHR4 := Lib.hid r4A
    have HHR6 := Lib.hid r6A
    clear gA r4A r6A
    go_wp2_with fail
    refine HM.out.mono ?_
    rintro e W6 ⟨rfl, hB, hgn⟩
    have gB := zd HHG.out hgn
    have r4B := zc hgn HHR4.out HN4.out
    have r6B := zc hgn HHR6.out HN6.out
    clear HM HHG HHR4 HHR6
    clear hst hgn hA
    clear q0 q1 q2 q3 q4 q5 q6 q7 q8 q9
    clear y1 x1 t18 t1A
    have HM := Lib.hid (rtakeplace_any hB)
    have HHG := Lib.hid gB
    have HHR4 := Lib.hid r4B
    have HHR6 := Lib.hid r6B
    clear gB r4B r6B
    go_wp2_with fail
    refine HM.out.mono ?_
    rintro e W7 ⟨n, l2, b2, hn6, rfl, hC, hrn, hgn⟩
    have gC := zd HHG.out hgn
    have r4C := zc hgn HHR4.out HN4.out
    have r6C := zc hgn HHR6.out HN6.out
    clear HM HHG HHR4 HHR6
    have HRN := Lib.hid hrn
    clear hrn hn6 hgn hB
    have hgs := (za (zf W7 (some g6)) (.inl rfl) (p := ⟨g6, 2, none⟩) (.int .i64 (n : Nat)))
    have hD := hC.kept (row := some g6) hgs (fun k e => by injection e with e; subst e; exact HG4B.out.2)
    have gD := (za gC (.inr HG4W.out.2) (p := ⟨g6, 2, none⟩) (.int .i64 (n : Nat)))
    have r4D := zc hgs r4C HN46.out
    have r6D : World.rowIs (W7.setCell ⟨g6, 2, none⟩ (.int .i64 (n : Nat))) g6 75 13 (stF 1 ⟨6, (n : Nat), 0, 0⟩ c0 (.slice none 0 0) (.slice none 0 0) (tk.ln : Nat)) := (r6C.set 2 (.int .i64 (n : Nat))).congr fun i hi => by
     match i, hi with
     | 0, _ => rfl
     | 1, _ => rfl
     | 2, _ => rfl
     | 3, _ => rfl
     | 4, _ => rfl
     | 5, _ => rfl
     | 6, _ => rfl
     | 7, _ => rfl
     | 8, _ => rfl
     | 9, _ => rfl
     | 10, _ => rfl
     | 11, _ => rfl
     | 12, _ => rfl
    have y2 := r6C.cell (show 2 < 13 by omega)
    have x2 := r6C.frozen 2
    dsimp only [stF, i0, c0] at y2
    clear hC gC r4C r6C hgs
    have H6 := Lib.hid hD
    have HG := Lib.hid gD
    have HR6 := Lib.hid r6D
    have HR4' := Lib.hid r4D
    have HTB := Lib.hid (Tr.nil (W7.setCell ⟨g6, 2, none⟩ (.int .i64 (n : Nat))) (fun k => g6 < k))
    have HTE := Lib.hid (Tr.nil (W7.setCell ⟨g6, 2, none⟩ (.int .i64 (n : Nat))) (fun k => g6 < k))
    have a0 := r6D.cell (show 0 < 13 by omega)
    have b0 := r4D.cell (show 0 < 13 by omega)
    have z0 := r4D.frozen 0
    have a1 := r6D.cell (show 1 < 13 by omega)
    have b1 := r4D.cell (show 1 < 13 by omega)
    have z1 := r4D.frozen 1
    have a2 := r6D.cell (show 2 < 13 by omega)
    have b2 := r4D.cell (show 2 < 13 by omega)
    have z2 := r4D.frozen 2
    have a3 := r6D.cell (show 3 < 13 by omega)
    have b3 := r4D.cell (show 3 < 13 by omega)
    have z3 := r4D.frozen 3
    have a4 := r6D.cell (show 4 < 13 by omega)
    have b4 := r4D.cell (show 4 < 13 by omega)
    have z4 := r4D.frozen 4
    have a5 := r6D.cell (show 5 < 13 by omega)
    have b5 := r4D.cell (show 5 < 13 by omega)
    have z5 := r4D.frozen 5
    have a6 := r6D.cell (show 6 < 13 by omega)
    have b6 := r4D.cell (show 6 < 13 by omega)
    have z6 := r4D.frozen 6
    have a7 := r6D.cell (show 7 < 13 by omega)
    have b7 := r4D.cell (show 7 < 13 by omega)
    have z7 := r4D.frozen 7
    have a8 := r6D.cell (show 8 < 13 by omega)
    have b8 := r4D.cell (show 8 < 13 by omega)
    have z8 := r4D.frozen 8
    have a9 := r6D.cell (show 9 < 13 by omega)
    have b9 := r4D.cell (show 9 < 13 by omega)
    have z9 := r4D.frozen 9
    have a10 := r6D.cell (show 10 < 13 by omega)
    have b10 := r4D.cell (show 10 < 13 by omega)
    have z10 := r4D.frozen 10
    have a11 := r6D.cell (show 11 < 13 by omega)
    have b11 := r4D.cell (show 11 < 13 by omega)
    have z11 := r4D.frozen 11
    have a12 := r6D.cell (show 12 < 13 by omega)
    have b12 := r4D.cell (show 12 < 13 by omega)
    have z12 := r4D.frozen 12
    dsimp only [stF, i0, c0] at a0 b0 a1 b1 a2 b2 a3 b3 a4 b4 a5 b5 a6 b6 a7 b7 a8 b8 a9 b9 a10 b10 a11 b11 a12 b12
    clear hD gD r6D r4D
    go_wp2_with fail
    (try simp only [Exit.inBlock, Exit.then])
    have hx0 := (za (za (za (za (za (za (za (za (za (za (za (za (za (zf (W7.setCell ⟨g6, 2, none⟩ (.int .i64 (n : Nat))) (some g4)) (.inl rfl) (p := ⟨g4, 0, none⟩) (.int .u8 (1 : Nat))) (.inl rfl) (p := ⟨g4, 1, none⟩) (.int .u8 (6 : Nat))) (.inl rfl) (p := ⟨g4, 2, none⟩) (.int .i64 (n : Nat))) (.inl rfl) (p := ⟨g4, 3, none⟩) (.int .i64 0)) (.inl rfl) (p := ⟨g4, 4, none⟩) (.int .i64 0)) (.inl rfl) (p := ⟨g4, 5, none⟩) (.bool false)) (.inl rfl) (p := ⟨g4, 6, none⟩) (.int .u8 (0 : Nat))) (.inl rfl) (p := ⟨g4, 7, none⟩) (.int .i64 0)) (.inl rfl) (p := ⟨g4, 8, none⟩) (.int .i64 0)) (.inl rfl) (p := ⟨g4, 9, none⟩) (.int .i64 0)) (.inl rfl) (p := ⟨g4, 10, none⟩) (.slice none 0 0)) (.inl rfl) (p := ⟨g4, 11, none⟩) (.slice none 0 0)) (.inl rfl) (p := ⟨g4, 12, none⟩) (.int .i64 (tk.ln : Nat)))
    have hx1 := st_all 1 ⟨6, (n : Nat), 0, 0⟩ ⟨false, ⟨0, 0, 0, 0⟩⟩ (.slice none 0 0) (.slice none 0 0) ((tk.ln : Nat)) HR4'.out
    have hx2 := H6.out.kept (row := some g4) hx0 (fun k e => by injection e with e; subst e; exact HG4B.out.1)
    have hx3 := (za (za (za (za (za (za (za (za (za (za (za (za (za HG.out (.inr HG4W.out.1) (p := ⟨g4, 0, none⟩) (.int .u8 (1 : Nat))) (.inr HG4W.out.1) (p := ⟨g4, 1, none⟩) (.int .u8 (6 : Nat))) (.inr HG4W.out.1) (p := ⟨g4, 2, none⟩) (.int .i64 (n : Nat))) (.inr HG4W.out.1) (p := ⟨g4, 3, none⟩) (.int .i64 0)) (.inr HG4W.out.1) (p := ⟨g4, 4, none⟩) (.int .i64 0)) (.inr HG4W.out.1) (p := ⟨g4, 5, none⟩) (.bool false)) (.inr HG4W.out.1) (p := ⟨g4, 6, none⟩) (.int .u8 (0 : Nat))) (.inr HG4W.out.1) (p := ⟨g4, 7, none⟩) (.int .i64 0)) (.inr HG4W.out.1) (p := ⟨g4, 8, none⟩) (.int .i64 0)) (.inr HG4W.out.1) (p := ⟨g4, 9, none⟩) (.int .i64 0)) (.inr HG4W.out.1) (p := ⟨g4, 10, none⟩) (.slice none 0 0)) (.inr HG4W.out.1) (p := ⟨g4, 11, none⟩) (.slice none 0 0)) (.inr HG4W.out.1) (p := ⟨g4, 12, none⟩) (.int .i64 (tk.ln : Nat)))
    have hx4 := HTB.out.grown hx0 (fun k hk e => by injection e with e; have := HE3.out; have hk' : g6 < k := hk; omega)
    have hx5 := HTE.out.grown hx0 (fun k hk e => by injection e with e; have := HE3.out; have hk' : g6 < k := hk; omega)
    have hx4 := hx4.mono (S' := fun k => w.heap.size ≤ k) (fun k hk _ => by have := HG4.out; have := HE3.out; have hk' : g6 < k := hk; omega)
    have hx5 := hx5.mono (S' := fun k => w.heap.size ≤ k) (fun k hk _ => by have := HG4.out; have := HE3.out; have hk' : g6 < k := hk; omega)
    clear hx0
    dsimp only at hx1 hx2 hx3 hx4 hx5 ⊢
    generalize ((((((((((((((W7.setCell ⟨g6, 2, none⟩ (.int .i64 (n : Nat))).setCell ⟨g4, 0, none⟩ (.int .u8 (1 : Nat))).setCell ⟨g4, 1, none⟩ (.int .u8 (6 : Nat))).setCell ⟨g4, 2, none⟩ (.int .i64 (n : Nat))).setCell ⟨g4, 3, none⟩ (.int .i64 0)).setCell ⟨g4, 4, none⟩ (.int .i64 0)).setCell ⟨g4, 5, none⟩ (.bool false)).setCell ⟨g4, 6, none⟩ (.int .u8 (0 : Nat))).setCell ⟨g4, 7, none⟩ (.int .i64 0)).setCell ⟨g4, 8, none⟩ (.int .i64 0)).setCell ⟨g4, 9, none⟩ (.int .i64 0)).setCell ⟨g4, 10, none⟩ (.slice none 0 0)).setCell ⟨g4, 11, none⟩ (.slice none 0 0)).setCell ⟨g4, 12, none⟩ (.int .i64 (tk.ln : Nat))) = W99 at hx1 hx2 hx3 hx4 hx5 ⊢
    refine bodyPost_ret (st_results rfl _ _ g4 rfl hx1) rfl ?_
    exact ⟨⟨1, ⟨6, (n : Nat), 0, 0⟩, ⟨false, ⟨0, 0, 0, 0⟩⟩, .nil, .nil, (tk.ln : Nat)⟩, .slice none 0 0, .slice none 0 0, l2, _, m1, rfl, hx4, hx5, hx2, (fun _ => HM500.out), by rw [HT.out, HM1.out]; exact kst (α := Unit) (st_una HL.out (by rw [HSS.out]; rfl) (by rw [HSS.out]; rfl : look unaL (hd l).s = some 6)) (rel_una HRN.out), hx3⟩
set_option maxRecDepth 100000 in
set_option maxHeartbeats 40000000 in
theorem rstmt_swap (dp : Nat) (hd20 : dp ≤ 20) (blk : Blk) (h : RS B w gp l none many) (hm : many < 500) (hss : (hd l).s = [115, 119, 97, 112]) :
  Calls Try.prog 77 #[.pointer (some ⟨gp, 0, none⟩), .int .i64 dp] w (RStPost (stmt false blk) B gp w l many) := by
 have HKN : Hid (Known (hd l).s) := by unfold Hid; rw [hss]; exact (known_mem _).2 (by decide)
 have HK4 : Hid ((hd l).k ≠ 4) := (h.tl.hd_s (by rw [hss]; decide)).1
 have hkk : (hd l).k = 1 := wordk h.tl.hd_ok (by rw [hss]; decide) (by rw [hss]; decide)
 have HSS := Lib.hid hss
 clear hss
 obtain ⟨m1, hm1⟩ : ∃ m1, m1 = many + 1 := ⟨_, rfl⟩
 have hw1 : IntKind.i64.wrap ((many : Int) + 1) = (m1 : Int) := by rw [IntKind.wrap_i64]; omega; all_goals omega
 have hm501 : m1 ≤ 501 := by omega
 have HM1 := Lib.hid hm1
 have HM500 : Hid (m1 ≤ 500) := by unfold Hid; omega
 have htest : ¬ (500 : Int) < m1 := by omega
 have htest2 : ¬ (20 : Int) < dp := by omega
 have HL : Hid (¬ (500 < many + 1 ∨ false = true)) := by unfold Hid; simp; omega
 clear hm hd20 hm1
 have HKK := Lib.hid hkk
 clear hkk
 have hb1 : Below w.heap.size w (w.alloc zZ1) := (Below.refl _ _).alloc (Nat.le_refl _) _
 have h1 := h.below hb1
 have hr4 := st_row (k := 0) (i := i0) (c := c0) (vb := .slice none 0 0) (ve := .slice none 0 0) (ln := 0) (heap_alloc_new w zZ1)
 obtain ⟨tk, htk⟩ : ∃ tk, tk = hd l := ⟨_, rfl⟩
 have hN1 := rnow_any h1
 rw [← htk] at hN1
 have HN1 := Lib.hid hN1
 have HW := Lib.hid (And.intro h.bw h.bp)
 have HOK : Hid (TokOk tk) := by rw [htk]; exact h.tl.hd_ok
 have H1 := Lib.hid h1
 have HB1 := Lib.hid hb1
 have HR4 := Lib.hid hr4
 have HT := Lib.hid htk
 have hf3 := tok_f3
 have e1 : (w.alloc zZ1).heap.size = w.heap.size + 1 := World.size_alloc _ _
 have HE1 := Lib.hid e1
 clear h htk h1 hb1 hr4 hN1 e1
 go_enter Try.func77, Try.ntmps77
 go_wp2_with fail
 have hgg := HE1.out
 have hp := H1.out
 have r4 := HR4.out
 have hbw := HB1.out
 have HN1' := HN1.out
 clear H1 HR4 HB1 HN1 HE1
 generalize w.alloc zZ1 = W1 at *
 obtain ⟨g4, hg4⟩ : ∃ g4, g4 = w.heap.size := ⟨_, rfl⟩
 rw [← hg4] at r4 hgg ⊢
 have HG4 := Lib.hid hg4
 have HH := Lib.hid (And.intro hp (And.intro r4 (And.intro hbw hgg)))
 clear hp r4 hbw hgg hg4
 refine HN1'.mono ?_
 rintro e Wa ⟨rfl, hba⟩
 clear HN1'
 have hba2 : Below Wa.heap.size Wa (Wa.alloc (zZ3 tk)) := (Below.refl _ _).alloc (Nat.le_refl _) _
 have h2 := (HH.out.1.below hba).below hba2
 have hN2 := rnow_any h2
 rw [← HT.out] at hN2
 have HN2x := Lib.hid hN2
 have HP2 := Lib.hid h2
 have R42 := Lib.hid (ze hba2 (ze hba HH.out.2.1 HH.out.2.1.lt) (ze hba HH.out.2.1 HH.out.2.1.lt).lt)
 have R62 := Lib.hid (st_row (k := 1) (i := i0) (c := c0) (vb := .slice none 0 0) (ve := .slice none 0 0) (ln := tk.ln) (heap_alloc_new Wa (zZ3 tk)))
 have HGA := Lib.hid (zd (zb HH.out.2.2.1 (some gp)) (zd (zb hba (some gp)) (zb hba2 (some gp))))
 have HE3 : Hid (g4 < Wa.heap.size ∧ True ∧ True) := ⟨by have := HH.out.2.2.2; have := hba.size; omega, trivial, trivial⟩
 clear h2 hN2 hba hba2 HH
 go_wp2_with fail
 generalize Wa.alloc (zZ3 tk) = Wc at *
 obtain ⟨g6, hg6⟩ : ∃ g6, g6 = Wa.heap.size := ⟨_, rfl⟩
 rw [← hg6] at R62 HE3 ⊢
 clear hg6 hf3 Wa
 refine HN2x.out.mono ?_
 rintro e Wb ⟨rfl, hb⟩
 have hbt : Below Wb.heap.size Wb (Wb.alloc (.cells #[.int .u8 tk.k, .string (mkS tk.s), .int .i64 tk.n, .int .i64 tk.ln] 60)) := (Below.refl _ _).alloc (Nat.le_refl _) _
 have HP := Lib.hid ((HP2.out.below hb).below hbt)
 have R4 := Lib.hid (ze hbt (ze hb R42.out R42.out.lt) (ze hb R42.out R42.out.lt).lt)
 have R6 := Lib.hid (ze hbt (ze hb R62.out R62.out.lt) (ze hb R62.out R62.out.lt).lt)
 have G1 := Lib.hid (zd HGA.out (zd (zb hb (some gp)) (zb hbt (some gp))))
 obtain ⟨d0, d1, d2, d3⟩ := al_four Wb tk
 have HD1 := Lib.hid d1
 have HL5x : Hid (Wb.heap.size < (Wb.alloc (.cells #[.int .u8 tk.k, .string (mkS tk.s), .int .i64 tk.n, .int .i64 tk.ln] 60)).heap.size) := by unfold Hid; rw [World.size_alloc]; omega
 have HN46 : Hid (g4 ≠ g6) := by have := HE3.out; unfold Hid; omega
 have HN64 : Hid (g6 ≠ g4) := by have := HE3.out; unfold Hid; omega
 have HN4 : Hid (g4 ≠ gp) := by have := HW.out; have := HG4.out; unfold Hid; omega
 have HN6 : Hid (g6 ≠ gp) := by have := HW.out; have := HG4.out; have := HE3.out; unfold Hid; omega
 have HG4B : Hid (B ≤ g4 ∧ B ≤ g6) := by have := HW.out; have := HG4.out; have := HE3.out; unfold Hid; omega
 have HG4W : Hid (w.heap.size ≤ g4 ∧ w.heap.size ≤ g6) := by have := HG4.out; have := HE3.out; unfold Hid; omega
 have HN5 : Hid (Wb.heap.size ≠ gp ∧ Wb.heap.size ≠ g4 ∧ Wb.heap.size ≠ g6) := by
  have h1 := hb.size; have h2 := R62.out.lt; have := HW.out; have := HG4.out; have := HE3.out; unfold Hid; omega
 obtain ⟨s, hs⟩ : ∃ s, s = tk.s := ⟨_, rfl⟩
 have HS8 : Hid (∀ x ∈ s, x < 256) := by rw [hs]; exact HOK.out.1
 have HS : Hid (s = (hd l).s) := by rw [← HT.out]; exact hs
 clear HN2x HP2 R42 R62 HGA hb hbt d2 d3
 have KK : Hid (tk.k = 1) := by unfold Hid; rw [HT.out]; exact HKK.out
 have k1I : ((tk.k : Int) != 1) = false := by rw [show tk.k = 1 from KK.out]; rfl
 go_wp2_with fail
 try rw [show Wb.heap.size + 1 = (Wb.alloc (.cells #[.int .u8 tk.k, .string (mkS tk.s), .int .i64 tk.n, .int .i64 tk.ln] 60)).heap.size from (World.size_alloc _ _).symm]
 obtain ⟨g5, hg5⟩ : ∃ g5, g5 = Wb.heap.size := ⟨_, rfl⟩
 rw [← hs] at HD1 ⊢
 have T1 : Hid ((Wb.alloc (.cells #[.int .u8 tk.k, .string (mkS s), .int .i64 tk.n, .int .i64 tk.ln] 60)).cell? ⟨g5, 1, none⟩ = some (.string (mkS s))) := by rw [hg5]; exact HD1.out
 have HL5 := HL5x
 rw [← hs] at HP R4 R6 G1 HL5
 rw [← hg5] at HL5 HN5 ⊢
 generalize Wb.alloc (.cells #[.int .u8 tk.k, .string (mkS s), .int .i64 tk.n, .int .i64 tk.ln] 60) = Wd at *
 clear hg5 HD1 HL5x d0 d1 Wb hs
 clear k1I
 have hcn : ∀ i (hi : i < knownS.length), (Wd.alloc zZ5).cell? ⟨(World.heap Wd).size, i, none⟩ = some (.string (mkS knownS[i])) := fun i hi => by
  rw [cell_of_row _ _ _ _ _ _ (heap_alloc_new _ _)]
  match i, hi with
  | 0, _ => rfl
  | 1, _ => rfl
  | 2, _ => rfl
  | 3, _ => rfl
  | 4, _ => rfl
  | 5, _ => rfl
  | 6, _ => rfl
  | 7, _ => rfl
  | 8, _ => rfl
  | 9, _ => rfl
  | 10, _ => rfl
  | 11, _ => rfl
  | 12, _ => rfl
  | 13, _ => rfl
  | 14, _ => rfl
 have HCN := Lib.hid hcn
 have hb : Below (World.heap Wd).size Wd (Wd.alloc zZ5) := (Below.refl _ _).alloc (Nat.le_refl _) _
 replace HP := Lib.hid (HP.out.below hb)
 replace G1 := Lib.hid (zd G1.out (zb hb (some gp)))
 replace R4 := Lib.hid (ze hb R4.out R4.out.lt)
 replace R6 := Lib.hid (ze hb R6.out R6.out.lt)
 replace T1 := Lib.hid ((hb.cell (World.block_lt_of_cell? _ _ T1.out)).trans T1.out)
 replace HL5 : Hid (g5 < _) := Nat.lt_of_lt_of_le HL5.out hb.size
 clear hb
 clear hcn
 generalize World.alloc Wd zZ5 = X at *
 generalize (World.heap Wd).size = g7 at *
 have R0 : ∃ i : Nat, (Value.int .i64 0) = .int .i64 i ∧ i ≤ 15 ∧ (Value.bool false) = .bool (decide (s ∈ knownS.take i)) ∧ Below X.heap.size X X := ⟨0, rfl, by omega, by simp, Below.refl _ _⟩
 go_loopw [8, 9] (fun v8 v9 wr => ∃ i : Nat, v9 = .int .i64 i ∧ i ≤ 15 ∧ v8 = .bool (decide (s ∈ knownS.take i)) ∧ Below X.heap.size X wr) (fun _ v _ => 15 - (intOf v).toNat)
 case atStart => exact R0
 case round =>
  clear R0
  obtain ⟨i, rfl, hi, rfl, hb⟩ := hrel
  by_cases hl : i < 15
  · have hlI : (i : Int) < 15 := by omega
    have i0' : (0 : Int) ≤ i := by omega
    have iT : ((i : Int)).toNat = i := by omega
    have hwi : IntKind.i64.wrap ((i : Int) + 1) = ((i + 1 : Nat) : Int) := by rw [IntKind.wrap_i64]; omega; all_goals omega
    have hlk : i < knownS.length := hl
    have hci := (hb.cell (World.block_lt_of_cell? _ _ (HCN.out i hlk))).trans (HCN.out i hlk)
    obtain ⟨x, hx⟩ : ∃ x, x = knownS[i] := ⟨_, rfl⟩
    rw [← hx] at hci
    have htk : knownS.take (i + 1) = knownS.take i ++ [x] := by rw [hx, List.take_succ_eq_append_getElem hlk]
    have hx8 := knownS_b8 x (by rw [hx]; exact List.getElem_mem hlk)
    have HTK := Lib.hid htk
    have HB := Lib.hid hb
    by_cases hin : s ∈ knownS.take i
    · have hin2 : s ∈ knownS.take (i + 1) := by rw [htk]; exact List.mem_append_left _ hin
      rw [decide_eq_true hin]
      have HIN := Lib.hid hin2
      have HLL := Lib.hid hl
      clear hin hin2 htk hx hx8 hb hl
      go_wp2_with fail
      go_roundw
      case rel => exact ⟨i + 1, rfl, HLL.out, by rw [decide_eq_true HIN.out], HB.out⟩
      case measure => show 15 - (i + 1 : Nat) < 15 - i; have := HLL.out; omega
    · rw [decide_eq_false hin]
      have HI := Lib.hid (ris_any (HP.out.below hb) (mkS x) x rfl hx8.1 hx8.2)
      rw [← HS.out] at HI
      have HIN := Lib.hid hin
      have HLL := Lib.hid hl
      clear hin htk hx hx8 hb hl
      obtain ⟨r, hr⟩ : ∃ r, r = decide (s = x) := ⟨_, rfl⟩
      rw [← hr] at HI
      have HRR := Lib.hid hr
      clear hr
      go_wp2_with fail
      refine HI.out.mono ?_
      rintro e w3 ⟨rfl, hb3⟩
      have HB3 := Lib.hid (HB.out.trans (hb3.mono HB.out.size))
      clear hb3 HI
      go_wp2_with fail
      go_roundw
      case rel =>
       refine ⟨i + 1, rfl, HLL.out, ?_, HB3.out⟩
       rw [HRR.out, HTK.out]
       have hin := HIN.out
       congr 1
       rw [Bool.eq_iff_iff, decide_eq_true_eq, decide_eq_true_eq, List.mem_append, List.mem_singleton]
       exact ⟨fun e => .inr e, fun e => by rcases e with e | e; exact absurd e hin; exact e⟩
      case measure => show 15 - (i + 1 : Nat) < 15 - i; have := HLL.out; omega
  · have hlI : ¬ (i : Int) < 15 := by omega
    have hii : i = 15 := by omega
    subst hii
    rw [show knownS.take 15 = knownS from rfl]
    have HB := Lib.hid hb
    clear hb hl hi
    have hb := HB.out
    replace HP := Lib.hid (HP.out.below hb)
    replace G1 := Lib.hid (zd G1.out (zb hb (some gp)))
    replace R4 := Lib.hid (ze hb R4.out R4.out.lt)
    replace R6 := Lib.hid (ze hb R6.out R6.out.lt)
    replace T1 := Lib.hid ((hb.cell (World.block_lt_of_cell? _ _ T1.out)).trans T1.out)
    replace HL5 : Hid (g5 < _) := Nat.lt_of_lt_of_le HL5.out hb.size
    clear hb
    clear HB HCN
    rw [decide_eq_true ((known_mem _).1 (HS.out ▸ HKN.out))]
    obtain ⟨gq, cq0, Lq, kq, qq, -⟩ := HP.out.ex
    have f4 : wr.cell? ⟨gp, 4, none⟩ = some (.int .i64 many) := qq.cell (show 4 < 5 by omega)
    have z4x := qq.frozen 4
    clear qq
    have h8 := HP.out.setM (m := m1) hm501
    have g8 := za G1.out (.inl rfl) (p := ⟨gp, 4, none⟩) (.int .i64 (m1 : Nat))
    have hgs : wr.grownBy (wr.setCell ⟨gp, 4, none⟩ (.int .i64 (m1 : Nat))) (some gp) := za (zf _ _) (.inl rfl) _
    have r48 := zc hgs R4.out HN4.out
    have r68 := zc hgs R6.out HN6.out
    have t18 : World.cell? (wr.setCell ⟨gp, 4, none⟩ (.int .i64 (m1 : Nat))) ⟨g5, 1, none⟩ = some (.string (mkS s)) := (grown_cell hgs (p := ⟨g5, 1, none⟩) (World.block_lt_of_cell? _ _ T1.out) HN5.out.1).trans T1.out
    have n5p := HN5.out.1
    have n56 := HN5.out.2.2
    have n65 : g6 ≠ g5 := fun e => HN5.out.2.2 e.symm
    have n54 := HN5.out.2.1
    clear HP G1 R4 R6 T1 hgs
    have q0 : ((mkS s).toList == ([104, 97, 108, 116] : List UInt8)) = false := nW [104, 97, 108, 116] HS8.out (by decide) (by rw [HS.out, HSS.out]; decide)
    have q1 : ((mkS s).toList == ([104, 97, 115, 104] : List UInt8)) = false := nW [104, 97, 115, 104] HS8.out (by decide) (by rw [HS.out, HSS.out]; decide)
    have q2 : ((mkS s).toList == ([104, 97, 115, 104, 100] : List UInt8)) = false := nW [104, 97, 115, 104, 100] HS8.out (by decide) (by rw [HS.out, HSS.out]; decide)
    have q3 : ((mkS s).toList == ([111, 117, 116] : List UInt8)) = false := nW [111, 117, 116] HS8.out (by decide) (by rw [HS.out, HSS.out]; decide)
    have q4 : ((mkS s).toList == ([122, 101, 114, 111] : List UInt8)) = false := nW [122, 101, 114, 111] HS8.out (by decide) (by rw [HS.out, HSS.out]; decide)
    have q5 : ((mkS s).toList == ([115, 119, 97, 112] : List UInt8)) = true := by rw [show ([115, 119, 97, 112] : List UInt8) = (mkS [115, 119, 97, 112]).toList from (by rw [Lib.toList_data]; rfl), mkS_eq HS8.out (by decide)]; exact decide_eq_true (by rw [HS.out, HSS.out])
    have q6 : ((mkS s).toList == ([126] : List UInt8)) = false := nW [126] HS8.out (by decide) (by rw [HS.out, HSS.out]; decide)
    have q7 : ((mkS s).toList == ([114] : List UInt8)) = false := nW [114] HS8.out (by decide) (by rw [HS.out, HSS.out]; decide)
    have q8 : ((mkS s).toList == ([105, 102] : List UInt8)) = false := nW [105, 102] HS8.out (by decide) (by rw [HS.out, HSS.out]; decide)
    have q9 : ((mkS s).toList == ([100, 111] : List UInt8)) = false := nW [100, 111] HS8.out (by decide) (by rw [HS.out, HSS.out]; decide)
    have hgs := (za (zf (wr.setCell ⟨gp, 4, none⟩ (.int .i64 (m1 : Nat))) (some g6)) (.inl rfl) (p := ⟨g6, 1, none⟩) (.int .u8 6))
    have hA := h8.kept (row := some g6) hgs (fun k e => by injection e with e; subst e; exact HG4B.out.2)
    have gA := (za g8 (.inr HG4W.out.2) (p := ⟨g6, 1, none⟩) (.int .u8 6))
    have r4A := zc hgs r48 HN46.out
    have r6A : World.rowIs ((wr.setCell ⟨gp, 4, none⟩ (.int .i64 (m1 : Nat))).setCell ⟨g6, 1, none⟩ (.int .u8 6)) g6 75 13 (stF 1 ⟨6, 0, 0, 0⟩ c0 (.slice none 0 0) (.slice none 0 0) (tk.ln : Nat)) := st_setO 6 r68
    have y1 := r68.cell (show 1 < 13 by omega)
    have x1 := r68.frozen 1
    dsimp only [stF, i0, c0] at y1
    clear h8 g8 r48 r68 hgs
    have t1A : World.cell? ((wr.setCell ⟨gp, 4, none⟩ (.int .i64 (m1 : Nat))).setCell ⟨g6, 1, none⟩ (.int .u8 6)) ⟨g5, 1, none⟩ = some (.string (mkS s)) := (World.cell?_of_block (Below.heap_setCell _ ⟨g6, 1, none⟩ _ g5 n56)).trans t18
    have hgs := (za (zf ((wr.setCell ⟨gp, 4, none⟩ (.int .i64 (m1 : Nat))).setCell ⟨g6, 1, none⟩ (.int .u8 6)) (some g6)) (.inl rfl) (p := ⟨g6, 1, none⟩) (.int .u8 7))
    have hX := hA.kept (row := some g6) hgs (fun k e => by injection e with e; subst e; exact HG4B.out.2)
    have gX := (za gA (.inr HG4W.out.2) (p := ⟨g6, 1, none⟩) (.int .u8 7))
    have r4X := zc hgs r4A HN46.out
    have r6X : World.rowIs (((wr.setCell ⟨gp, 4, none⟩ (.int .i64 (m1 : Nat))).setCell ⟨g6, 1, none⟩ (.int .u8 6)).setCell ⟨g6, 1, none⟩ (.int .u8 7)) g6 75 13 (stF 1 ⟨7, 0, 0, 0⟩ c0 (.slice none 0 0) (.slice none 0 0) (tk.ln : Nat)) := st_setO 7 r6A
    have y1b := r6A.cell (show 1 < 13 by omega)
    have x1b := r6A.frozen 1
    dsimp only [stF, i0, c0] at y1b
    clear hA gA r4A r6A hgs
    have t1B : World.cell? (((wr.setCell ⟨gp, 4, none⟩ (.int .i64 (m1 : Nat))).setCell ⟨g6, 1, none⟩ (.int .u8 6)).setCell ⟨g6, 1, none⟩ (.int .u8 7)) ⟨g5, 1, none⟩ = some (.string (mkS s)) := (World.cell?_of_block (Below.heap_setCell _ ⟨g6, 1, none⟩ _ g5 n56)).trans t1A
    have hst := rstep_any hX
    rw [if_neg HK4.out] at hst
    have HM := Lib.hid (hst)
    have HHG := Lib.hid gX
    have HHR4 := Lib.hid r4X
    have HHR6 := Lib.hid r6X
    clear gX r4X r6X
    go_wp2_with fail
    refine HM.out.mono ?_
    rintro e W6 ⟨rfl, hB, hgn⟩
    have gB := zd HHG.out hgn
    have r4B := zc hgn HHR4.out HN4.out
    have r6B := zc hgn HHR6.out HN6.out
    clear HM HHG HHR4 HHR6
    clear hst hgn hX
    clear q0 q1 q2 q3 q4 q5 q6 q7 q8 q9
    clear y1 x1 t18 t1A y1b x1b t1B
    have HM := Lib.hid (rtakeplace_any hB)
    have HHG := Lib.hid gB
    have HHR4 := Lib.hid r4B
    have HHR6 := Lib.hid r6B
    clear gB r4B r6B
    go_wp2_with fail
    refine HM.out.mono ?_
    rintro e W7 ⟨n, l2, b2, hn6, rfl, hC, hrn, hgn⟩
    have gC := zd HHG.out hgn
    have r4C := zc hgn HHR4.out HN4.out
    have r6C := zc hgn HHR6.out HN6.out
    clear HM HHG HHR4 HHR6
    have HRN := Lib.hid hrn
    clear hrn hn6 hgn hB
    have hgs := (za (zf W7 (some g6)) (.inl rfl) (p := ⟨g6, 2, none⟩) (.int .i64 (n : Nat)))
    have hD := hC.kept (row := some g6) hgs (fun k e => by injection e with e; subst e; exact HG4B.out.2)
    have gD := (za gC (.inr HG4W.out.2) (p := ⟨g6, 2, none⟩) (.int .i64 (n : Nat)))
    have r4D := zc hgs r4C HN46.out
    have r6D : World.rowIs (W7.setCell ⟨g6, 2, none⟩ (.int .i64 (n : Nat))) g6 75 13 (stF 1 ⟨7, (n : Nat), 0, 0⟩ c0 (.slice none 0 0) (.slice none 0 0) (tk.ln : Nat)) := (r6C.set 2 (.int .i64 (n : Nat))).congr fun i hi => by
     match i, hi with
     | 0, _ => rfl
     | 1, _ => rfl
     | 2, _ => rfl
     | 3, _ => rfl
     | 4, _ => rfl
     | 5, _ => rfl
     | 6, _ => rfl
     | 7, _ => rfl
     | 8, _ => rfl
     | 9, _ => rfl
     | 10, _ => rfl
     | 11, _ => rfl
     | 12, _ => rfl
    have y2 := r6C.cell (show 2 < 13 by omega)
    have x2 := r6C.frozen 2
    dsimp only [stF, i0, c0] at y2
    clear hC gC r4C r6C hgs
    have H6 := Lib.hid hD
    have HG := Lib.hid gD
    have HR6 := Lib.hid r6D
    have HR4' := Lib.hid r4D
    have HTB := Lib.hid (Tr.nil (W7.setCell ⟨g6, 2, none⟩ (.int .i64 (n : Nat))) (fun k => g6 < k))
    have HTE := Lib.hid (Tr.nil (W7.setCell ⟨g6, 2, none⟩ (.int .i64 (n : Nat))) (fun k => g6 < k))
    have a0 := r6D.cell (show 0 < 13 by omega)
    have b0 := r4D.cell (show 0 < 13 by omega)
    have z0 := r4D.frozen 0
    have a1 := r6D.cell (show 1 < 13 by omega)
    have b1 := r4D.cell (show 1 < 13 by omega)
    have z1 := r4D.frozen 1
    have a2 := r6D.cell (show 2 < 13 by omega)
    have b2 := r4D.cell (show 2 < 13 by omega)
    have z2 := r4D.frozen 2
    have a3 := r6D.cell (show 3 < 13 by omega)
    have b3 := r4D.cell (show 3 < 13 by omega)
    have z3 := r4D.frozen 3
    have a4 := r6D.cell (show 4 < 13 by omega)
    have b4 := r4D.cell (show 4 < 13 by omega)
    have z4 := r4D.frozen 4
    have a5 := r6D.cell (show 5 < 13 by omega)
    have b5 := r4D.cell (show 5 < 13 by omega)
    have z5 := r4D.frozen 5
    have a6 := r6D.cell (show 6 < 13 by omega)
    have b6 := r4D.cell (show 6 < 13 by omega)
    have z6 := r4D.frozen 6
    have a7 := r6D.cell (show 7 < 13 by omega)
    have b7 := r4D.cell (show 7 < 13 by omega)
    have z7 := r4D.frozen 7
    have a8 := r6D.cell (show 8 < 13 by omega)
    have b8 := r4D.cell (show 8 < 13 by omega)
    have z8 := r4D.frozen 8
    have a9 := r6D.cell (show 9 < 13 by omega)
    have b9 := r4D.cell (show 9 < 13 by omega)
    have z9 := r4D.frozen 9
    have a10 := r6D.cell (show 10 < 13 by omega)
    have b10 := r4D.cell (show 10 < 13 by omega)
    have z10 := r4D.frozen 10
    have a11 := r6D.cell (show 11 < 13 by omega)
    have b11 := r4D.cell (show 11 < 13 by omega)
    have z11 := r4D.frozen 11
    have a12 := r6D.cell (show 12 < 13 by omega)
    have b12 := r4D.cell (show 12 < 13 by omega)
    have z12 := r4D.frozen 12
    dsimp only [stF, i0, c0] at a0 b0 a1 b1 a2 b2 a3 b3 a4 b4 a5 b5 a6 b6 a7 b7 a8 b8 a9 b9 a10 b10 a11 b11 a12 b12
    clear hD gD r6D r4D
    go_wp2_with fail
    (try simp only [Exit.inBlock, Exit.then])
    have hx0 := (za (za (za (za (za (za (za (za (za (za (za (za (za (zf (W7.setCell ⟨g6, 2, none⟩ (.int .i64 (n : Nat))) (some g4)) (.inl rfl) (p := ⟨g4, 0, none⟩) (.int .u8 (1 : Nat))) (.inl rfl) (p := ⟨g4, 1, none⟩) (.int .u8 (7 : Nat))) (.inl rfl) (p := ⟨g4, 2, none⟩) (.int .i64 (n : Nat))) (.inl rfl) (p := ⟨g4, 3, none⟩) (.int .i64 0)) (.inl rfl) (p := ⟨g4, 4, none⟩) (.int .i64 0)) (.inl rfl) (p := ⟨g4, 5, none⟩) (.bool false)) (.inl rfl) (p := ⟨g4, 6, none⟩) (.int .u8 (0 : Nat))) (.inl rfl) (p := ⟨g4, 7, none⟩) (.int .i64 0)) (.inl rfl) (p := ⟨g4, 8, none⟩) (.int .i64 0)) (.inl rfl) (p := ⟨g4, 9, none⟩) (.int .i64 0)) (.inl rfl) (p := ⟨g4, 10, none⟩) (.slice none 0 0)) (.inl rfl) (p := ⟨g4, 11, none⟩) (.slice none 0 0)) (.inl rfl) (p := ⟨g4, 12, none⟩) (.int .i64 (tk.ln : Nat)))
    have hx1 := st_all 1 ⟨7, (n : Nat), 0, 0⟩ ⟨false, ⟨0, 0, 0, 0⟩⟩ (.slice none 0 0) (.slice none 0 0) ((tk.ln : Nat)) HR4'.out
    have hx2 := H6.out.kept (row := some g4) hx0 (fun k e => by injection e with e; subst e; exact HG4B.out.1)
    have hx3 := (za (za (za (za (za (za (za (za (za (za (za (za (za HG.out (.inr HG4W.out.1) (p := ⟨g4, 0, none⟩) (.int .u8 (1 : Nat))) (.inr HG4W.out.1) (p := ⟨g4, 1, none⟩) (.int .u8 (7 : Nat))) (.inr HG4W.out.1) (p := ⟨g4, 2, none⟩) (.int .i64 (n : Nat))) (.inr HG4W.out.1) (p := ⟨g4, 3, none⟩) (.int .i64 0)) (.inr HG4W.out.1) (p := ⟨g4, 4, none⟩) (.int .i64 0)) (.inr HG4W.out.1) (p := ⟨g4, 5, none⟩) (.bool false)) (.inr HG4W.out.1) (p := ⟨g4, 6, none⟩) (.int .u8 (0 : Nat))) (.inr HG4W.out.1) (p := ⟨g4, 7, none⟩) (.int .i64 0)) (.inr HG4W.out.1) (p := ⟨g4, 8, none⟩) (.int .i64 0)) (.inr HG4W.out.1) (p := ⟨g4, 9, none⟩) (.int .i64 0)) (.inr HG4W.out.1) (p := ⟨g4, 10, none⟩) (.slice none 0 0)) (.inr HG4W.out.1) (p := ⟨g4, 11, none⟩) (.slice none 0 0)) (.inr HG4W.out.1) (p := ⟨g4, 12, none⟩) (.int .i64 (tk.ln : Nat)))
    have hx4 := HTB.out.grown hx0 (fun k hk e => by injection e with e; have := HE3.out; have hk' : g6 < k := hk; omega)
    have hx5 := HTE.out.grown hx0 (fun k hk e => by injection e with e; have := HE3.out; have hk' : g6 < k := hk; omega)
    have hx4 := hx4.mono (S' := fun k => w.heap.size ≤ k) (fun k hk _ => by have := HG4.out; have := HE3.out; have hk' : g6 < k := hk; omega)
    have hx5 := hx5.mono (S' := fun k => w.heap.size ≤ k) (fun k hk _ => by have := HG4.out; have := HE3.out; have hk' : g6 < k := hk; omega)
    clear hx0
    dsimp only at hx1 hx2 hx3 hx4 hx5 ⊢
    generalize ((((((((((((((W7.setCell ⟨g6, 2, none⟩ (.int .i64 (n : Nat))).setCell ⟨g4, 0, none⟩ (.int .u8 (1 : Nat))).setCell ⟨g4, 1, none⟩ (.int .u8 (7 : Nat))).setCell ⟨g4, 2, none⟩ (.int .i64 (n : Nat))).setCell ⟨g4, 3, none⟩ (.int .i64 0)).setCell ⟨g4, 4, none⟩ (.int .i64 0)).setCell ⟨g4, 5, none⟩ (.bool false)).setCell ⟨g4, 6, none⟩ (.int .u8 (0 : Nat))).setCell ⟨g4, 7, none⟩ (.int .i64 0)).setCell ⟨g4, 8, none⟩ (.int .i64 0)).setCell ⟨g4, 9, none⟩ (.int .i64 0)).setCell ⟨g4, 10, none⟩ (.slice none 0 0)).setCell ⟨g4, 11, none⟩ (.slice none 0 0)).setCell ⟨g4, 12, none⟩ (.int .i64 (tk.ln : Nat))) = W99 at hx1 hx2 hx3 hx4 hx5 ⊢
    refine bodyPost_ret (st_results rfl _ _ g4 rfl hx1) rfl ?_
    exact ⟨⟨1, ⟨7, (n : Nat), 0, 0⟩, ⟨false, ⟨0, 0, 0, 0⟩⟩, .nil, .nil, (tk.ln : Nat)⟩, .slice none 0 0, .slice none 0 0, l2, _, m1, rfl, hx4, hx5, hx2, (fun _ => HM500.out), by rw [HT.out, HM1.out]; exact kst (α := Unit) (st_una HL.out (by rw [HSS.out]; rfl) (by rw [HSS.out]; rfl : look unaL (hd l).s = some 7)) (rel_una HRN.out), hx3⟩
set_option maxRecDepth 100000 in
set_option maxHeartbeats 40000000 in
theorem rstmt_not (dp : Nat) (hd20 : dp ≤ 20) (blk : Blk) (h : RS B w gp l none many) (hm : many < 500) (hss : (hd l).s = [126]) :
  Calls Try.prog 77 #[.pointer (some ⟨gp, 0, none⟩), .int .i64 dp] w (RStPost (stmt false blk) B gp w l many) := by
 have HKN : Hid (Known (hd l).s) := by unfold Hid; rw [hss]; exact (known_mem _).2 (by decide)
 have HK4 : Hid ((hd l).k ≠ 4) := (h.tl.hd_s (by rw [hss]; decide)).1
 have hkk : (hd l).k = 3 := signk h.tl.hd_ok (by rw [hss]; decide) (by rw [hss]; decide)
 have HSS := Lib.hid hss
 clear hss
 obtain ⟨m1, hm1⟩ : ∃ m1, m1 = many + 1 := ⟨_, rfl⟩
 have hw1 : IntKind.i64.wrap ((many : Int) + 1) = (m1 : Int) := by rw [IntKind.wrap_i64]; omega; all_goals omega
 have hm501 : m1 ≤ 501 := by omega
 have HM1 := Lib.hid hm1
 have HM500 : Hid (m1 ≤ 500) := by unfold Hid; omega
 have htest : ¬ (500 : Int) < m1 := by omega
 have htest2 : ¬ (20 : Int) < dp := by omega
 have HL : Hid (¬ (500 < many + 1 ∨ false = true)) := by unfold Hid; simp; omega
 clear hm hd20 hm1
 have HKK := Lib.hid hkk
 clear hkk
 have hb1 : Below w.heap.size w (w.alloc zZ1) := (Below.refl _ _).alloc (Nat.le_refl _) _
 have h1 := h.below hb1
 have hr4 := st_row (k := 0) (i := i0) (c := c0) (vb := .slice none 0 0) (ve := .slice none 0 0) (ln := 0) (heap_alloc_new w zZ1)
 obtain ⟨tk, htk⟩ : ∃ tk, tk = hd l := ⟨_, rfl⟩
 have hN1 := rnow_any h1
 rw [← htk] at hN1
 have HN1 := Lib.hid hN1
 have HW := Lib.hid (And.intro h.bw h.bp)
 have HOK : Hid (TokOk tk) := by rw [htk]; exact h.tl.hd_ok
 have H1 := Lib.hid h1
 have HB1 := Lib.hid hb1
 have HR4 := Lib.hid hr4
 have HT := Lib.hid htk
 have hf3 := tok_f3
 have e1 : (w.alloc zZ1).heap.size = w.heap.size + 1 := World.size_alloc _ _
 have HE1 := Lib.hid e1
 clear h htk h1 hb1 hr4 hN1 e1
 go_enter Try.func77, Try.ntmps77
 go_wp2_with fail
 have hgg := HE1.out
 have hp := H1.out
 have r4 := HR4.out
 have hbw := HB1.out
 have HN1' := HN1.out
 clear H1 HR4 HB1 HN1 HE1
 generalize w.alloc zZ1 = W1 at *
 obtain ⟨g4, hg4⟩ : ∃ g4, g4 = w.heap.size := ⟨_, rfl⟩
 rw [← hg4] at r4 hgg ⊢
 have HG4 := Lib.hid hg4
 have HH := Lib.hid (And.intro hp (And.intro r4 (And.intro hbw hgg)))
 clear hp r4 hbw hgg hg4
 refine HN1'.mono ?_
 rintro e Wa ⟨rfl, hba⟩
 clear HN1'
 have hba2 : Below Wa.heap.size Wa (Wa.alloc (zZ3 tk)) := (Below.refl _ _).alloc (Nat.le_refl _) _
 have h2 := (HH.out.1.below hba).below hba2
 have hN2 := rnow_any h2
 rw [← HT.out] at hN2
 have HN2x := Lib.hid hN2
 have HP2 := Lib.hid h2
 have R42 := Lib.hid (ze hba2 (ze hba HH.out.2.1 HH.out.2.1.lt) (ze hba HH.out.2.1 HH.out.2.1.lt).lt)
 have R62 := Lib.hid (st_row (k := 1) (i := i0) (c := c0) (vb := .slice none 0 0) (ve := .slice none 0 0) (ln := tk.ln) (heap_alloc_new Wa (zZ3 tk)))
 have HGA := Lib.hid (zd (zb HH.out.2.2.1 (some gp)) (zd (zb hba (some gp)) (zb hba2 (some gp))))
 have HE3 : Hid (g4 < Wa.heap.size ∧ True ∧ True) := ⟨by have := HH.out.2.2.2; have := hba.size; omega, trivial, trivial⟩
 clear h2 hN2 hba hba2 HH
 go_wp2_with fail
 generalize Wa.alloc (zZ3 tk) = Wc at *
 obtain ⟨g6, hg6⟩ : ∃ g6, g6 = Wa.heap.size := ⟨_, rfl⟩
 rw [← hg6] at R62 HE3 ⊢
 clear hg6 hf3 Wa
 refine HN2x.out.mono ?_
 rintro e Wb ⟨rfl, hb⟩
 have hbt : Below Wb.heap.size Wb (Wb.alloc (.cells #[.int .u8 tk.k, .string (mkS tk.s), .int .i64 tk.n, .int .i64 tk.ln] 60)) := (Below.refl _ _).alloc (Nat.le_refl _) _
 have HP := Lib.hid ((HP2.out.below hb).below hbt)
 have R4 := Lib.hid (ze hbt (ze hb R42.out R42.out.lt) (ze hb R42.out R42.out.lt).lt)
 have R6 := Lib.hid (ze hbt (ze hb R62.out R62.out.lt) (ze hb R62.out R62.out.lt).lt)
 have G1 := Lib.hid (zd HGA.out (zd (zb hb (some gp)) (zb hbt (some gp))))
 obtain ⟨d0, d1, d2, d3⟩ := al_four Wb tk
 have HD1 := Lib.hid d1
 have HL5x : Hid (Wb.heap.size < (Wb.alloc (.cells #[.int .u8 tk.k, .string (mkS tk.s), .int .i64 tk.n, .int .i64 tk.ln] 60)).heap.size) := by unfold Hid; rw [World.size_alloc]; omega
 have HN46 : Hid (g4 ≠ g6) := by have := HE3.out; unfold Hid; omega
 have HN64 : Hid (g6 ≠ g4) := by have := HE3.out; unfold Hid; omega
 have HN4 : Hid (g4 ≠ gp) := by have := HW.out; have := HG4.out; unfold Hid; omega
 have HN6 : Hid (g6 ≠ gp) := by have := HW.out; have := HG4.out; have := HE3.out; unfold Hid; omega
 have HG4B : Hid (B ≤ g4 ∧ B ≤ g6) := by have := HW.out; have := HG4.out; have := HE3.out; unfold Hid; omega
 have HG4W : Hid (w.heap.size ≤ g4 ∧ w.heap.size ≤ g6) := by have := HG4.out; have := HE3.out; unfold Hid; omega
 have HN5 : Hid (Wb.heap.size ≠ gp ∧ Wb.heap.size ≠ g4 ∧ Wb.heap.size ≠ g6) := by
  have h1 := hb.size; have h2 := R62.out.lt; have := HW.out; have := HG4.out; have := HE3.out; unfold Hid; omega
 obtain ⟨s, hs⟩ : ∃ s, s = tk.s := ⟨_, rfl⟩
 have HS8 : Hid (∀ x ∈ s, x < 256) := by rw [hs]; exact HOK.out.1
 have HS : Hid (s = (hd l).s) := by rw [← HT.out]; exact hs
 clear HN2x HP2 R42 R62 HGA hb hbt d2 d3
 have KK : Hid (tk.k = 3) := by unfold Hid; rw [HT.out]; exact HKK.out
 have k1I : ((tk.k : Int) != 1) = true := by rw [show tk.k = 3 from KK.out]; rfl
 go_wp2_with fail
 try rw [show Wb.heap.size + 1 = (Wb.alloc (.cells #[.int .u8 tk.k, .string (mkS tk.s), .int .i64 tk.n, .int .i64 tk.ln] 60)).heap.size from (World.size_alloc _ _).symm]
 obtain ⟨g5, hg5⟩ : ∃ g5, g5 = Wb.heap.size := ⟨_, rfl⟩
 rw [← hs] at HD1 ⊢
 have T1 : Hid ((Wb.alloc (.cells #[.int .u8 tk.k, .string (mkS s), .int .i64 tk.n, .int .i64 tk.ln] 60)).cell? ⟨g5, 1, none⟩ = some (.string (mkS s))) := by rw [hg5]; exact HD1.out
 have HL5 := HL5x
 rw [← hs] at HP R4 R6 G1 HL5
 rw [← hg5] at HL5 HN5 ⊢
 generalize Wb.alloc (.cells #[.int .u8 tk.k, .string (mkS s), .int .i64 tk.n, .int .i64 tk.ln] 60) = Wd at *
 clear hg5 HD1 HL5x d0 d1 Wb hs
 clear k1I
 have HI0 := ris_any HP.out ⟨#[126]⟩ [126] rfl (by decide) (by decide)
 rw [decide_eq_true HSS.out] at HI0
 have HI := Lib.hid HI0
 clear HI0
 go_wp2_with fail
 refine HI.out.mono ?_
 rintro e We ⟨rfl, hb⟩
 clear HI
 replace HP := Lib.hid (HP.out.below hb)
 replace G1 := Lib.hid (zd G1.out (zb hb (some gp)))
 replace R4 := Lib.hid (ze hb R4.out R4.out.lt)
 replace R6 := Lib.hid (ze hb R6.out R6.out.lt)
 replace T1 := Lib.hid ((hb.cell (World.block_lt_of_cell? _ _ T1.out)).trans T1.out)
 replace HL5 : Hid (g5 < _) := Nat.lt_of_lt_of_le HL5.out hb.size
 clear hb
 go_wp2_with fail
 try rw [show We.heap.size = We.heap.size from rfl]
 have hcn : ∀ i (hi : i < knownS.length), (We.alloc zZ5).cell? ⟨(World.heap We).size, i, none⟩ = some (.string (mkS knownS[i])) := fun i hi => by
  rw [cell_of_row _ _ _ _ _ _ (heap_alloc_new _ _)]
  match i, hi with
  | 0, _ => rfl
  | 1, _ => rfl
  | 2, _ => rfl
  | 3, _ => rfl
  | 4, _ => rfl
  | 5, _ => rfl
  | 6, _ => rfl
  | 7, _ => rfl
  | 8, _ => rfl
  | 9, _ => rfl
  | 10, _ => rfl
  | 11, _ => rfl
  | 12, _ => rfl
  | 13, _ => rfl
  | 14, _ => rfl
 have HCN := Lib.hid hcn
 have hb : Below (World.heap We).size We (We.alloc zZ5) := (Below.refl _ _).alloc (Nat.le_refl _) _
 replace HP := Lib.hid (HP.out.below hb)
 replace G1 := Lib.hid (zd G1.out (zb hb (some gp)))
 replace R4 := Lib.hid (ze hb R4.out R4.out.lt)
 replace R6 := Lib.hid (ze hb R6.out R6.out.lt)
 replace T1 := Lib.hid ((hb.cell (World.block_lt_of_cell? _ _ T1.out)).trans T1.out)
 replace HL5 : Hid (g5 < _) := Nat.lt_of_lt_of_le HL5.out hb.size
 clear hb
 clear hcn
 generalize World.alloc We zZ5 = X at *
 generalize (World.heap We).size = g7 at *
 have R0 : ∃ i : Nat, (Value.int .i64 0) = .int .i64 i ∧ i ≤ 15 ∧ (Value.bool false) = .bool (decide (s ∈ knownS.take i)) ∧ Below X.heap.size X X := ⟨0, rfl, by omega, by simp, Below.refl _ _⟩
 go_loopw [8, 9] (fun v8 v9 wr => ∃ i : Nat, v9 = .int .i64 i ∧ i ≤ 15 ∧ v8 = .bool (decide (s ∈ knownS.take i)) ∧ Below X.heap.size X wr) (fun _ v _ => 15 - (intOf v).toNat)
 case atStart => exact R0
 case round =>
  clear R0
  obtain ⟨i, rfl, hi, rfl, hb⟩ := hrel
  by_cases hl : i < 15
  · have hlI : (i : Int) < 15 := by omega
    have i0' : (0 : Int) ≤ i := by omega
    have iT : ((i : Int)).toNat = i := by omega
    have hwi : IntKind.i64.wrap ((i : Int) + 1) = ((i + 1 : Nat) : Int) := by rw [IntKind.wrap_i64]; omega; all_goals omega
    have hlk : i < knownS.length := hl
    have hci := (hb.cell (World.block_lt_of_cell? _ _ (HCN.out i hlk))).trans (HCN.out i hlk)
    obtain ⟨x, hx⟩ : ∃ x, x = knownS[i] := ⟨_, rfl⟩
    rw [← hx] at hci
    have htk : knownS.take (i + 1) = knownS.take i ++ [x] := by rw [hx, List.take_succ_eq_append_getElem hlk]
    have hx8 := knownS_b8 x (by rw [hx]; exact List.getElem_mem hlk)
    have HTK := Lib.hid htk
    have HB := Lib.hid hb
    by_cases hin : s ∈ knownS.take i
    · have hin2 : s ∈ knownS.take (i + 1) := by rw [htk]; exact List.mem_append_left _ hin
      rw [decide_eq_true hin]
      have HIN := Lib.hid hin2
      have HLL := Lib.hid hl
      clear hin hin2 htk hx hx8 hb hl
      go_wp2_with fail
      go_roundw
      case rel => exact ⟨i + 1, rfl, HLL.out, by rw [decide_eq_true HIN.out], HB.out⟩
      case measure => show 15 - (i + 1 : Nat) < 15 - i; have := HLL.out; omega
    · rw [decide_eq_false hin]
      have HI := Lib.hid (ris_any (HP.out.below hb) (mkS x) x rfl hx8.1 hx8.2)
      rw [← HS.out] at HI
      have HIN := Lib.hid hin
      have HLL := Lib.hid hl
      clear hin htk hx hx8 hb hl
      obtain ⟨r, hr⟩ : ∃ r, r = decide (s = x) := ⟨_, rfl⟩
      rw [← hr] at HI
      have HRR := Lib.hid hr
      clear hr
      go_wp2_with fail
      refine HI.out.mono ?_
      rintro e w3 ⟨rfl, hb3⟩
      have HB3 := Lib.hid (HB.out.trans (hb3.mono HB.out.size))
      clear hb3 HI
      go_wp2_with fail
      go_roundw
      case rel =>
       refine ⟨i + 1, rfl, HLL.out, ?_, HB3.out⟩
       rw [HRR.out, HTK.out]
       have hin := HIN.out
       congr 1
       rw [Bool.eq_iff_iff, decide_eq_true_eq, decide_eq_true_eq, List.mem_append, List.mem_singleton]
       exact ⟨fun e => .inr e, fun e => by rcases e with e | e; exact absurd e hin; exact e⟩
      case measure => show 15 - (i + 1 : Nat) < 15 - i; have := HLL.out; omega
  · have hlI : ¬ (i : Int) < 15 := by omega
    have hii : i = 15 := by omega
    subst hii
    rw [show knownS.take 15 = knownS from rfl]
    have HB := Lib.hid hb
    clear hb hl hi
    have hb := HB.out
    replace HP := Lib.hid (HP.out.below hb)
    replace G1 := Lib.hid (zd G1.out (zb hb (some gp)))
    replace R4 := Lib.hid (ze hb R4.out R4.out.lt)
    replace R6 := Lib.hid (ze hb R6.out R6.out.lt)
    replace T1 := Lib.hid ((hb.cell (World.block_lt_of_cell? _ _ T1.out)).trans T1.out)
    replace HL5 : Hid (g5 < _) := Nat.lt_of_lt_of_le HL5.out hb.size
    clear hb
    clear HB HCN
    rw [decide_eq_true ((known_mem _).1 (HS.out ▸ HKN.out))]
    obtain ⟨gq, cq0, Lq, kq, qq, -⟩ := HP.out.ex
    have f4 : wr.cell? ⟨gp, 4, none⟩ = some (.int .i64 many) := qq.cell (show 4 < 5 by omega)
    have z4x := qq.frozen 4
    clear qq
    have h8 := HP.out.setM (m := m1) hm501
    have g8 := za G1.out (.inl rfl) (p := ⟨gp, 4, none⟩) (.int .i64 (m1 : Nat))
    have hgs : wr.grownBy (wr.setCell ⟨gp, 4, none⟩ (.int .i64 (m1 : Nat))) (some gp) := za (zf _ _) (.inl rfl) _
    have r48 := zc hgs R4.out HN4.out
    have r68 := zc hgs R6.out HN6.out
    have t18 : World.cell? (wr.setCell ⟨gp, 4, none⟩ (.int .i64 (m1 : Nat))) ⟨g5, 1, none⟩ = some (.string (mkS s)) := (grown_cell hgs (p := ⟨g5, 1, none⟩) (World.block_lt_of_cell? _ _ T1.out) HN5.out.1).trans T1.out
    have n5p := HN5.out.1
    have n56 := HN5.out.2.2
    have n65 : g6 ≠ g5 := fun e => HN5.out.2.2 e.symm
    have n54 := HN5.out.2.1
    clear HP G1 R4 R6 T1 hgs
    have q0 : ((mkS s).toList == ([104, 97, 108, 116] : List UInt8)) = false := nW [104, 97, 108, 116] HS8.out (by decide) (by rw [HS.out, HSS.out]; decide)
    have q1 : ((mkS s).toList == ([104, 97, 115, 104] : List UInt8)) = false := nW [104, 97, 115, 104] HS8.out (by decide) (by rw [HS.out, HSS.out]; decide)
    have q2 : ((mkS s).toList == ([104, 97, 115, 104, 100] : List UInt8)) = false := nW [104, 97, 115, 104, 100] HS8.out (by decide) (by rw [HS.out, HSS.out]; decide)
    have q3 : ((mkS s).toList == ([111, 117, 116] : List UInt8)) = false := nW [111, 117, 116] HS8.out (by decide) (by rw [HS.out, HSS.out]; decide)
    have q4 : ((mkS s).toList == ([122, 101, 114, 111] : List UInt8)) = false := nW [122, 101, 114, 111] HS8.out (by decide) (by rw [HS.out, HSS.out]; decide)
    have q5 : ((mkS s).toList == ([115, 119, 97, 112] : List UInt8)) = false := nW [115, 119, 97, 112] HS8.out (by decide) (by rw [HS.out, HSS.out]; decide)
    have q6 : ((mkS s).toList == ([126] : List UInt8)) = true := by rw [show ([126] : List UInt8) = (mkS [126]).toList from (by rw [Lib.toList_data]; rfl), mkS_eq HS8.out (by decide)]; exact decide_eq_true (by rw [HS.out, HSS.out])
    have q7 : ((mkS s).toList == ([114] : List UInt8)) = false := nW [114] HS8.out (by decide) (by rw [HS.out, HSS.out]; decide)
    have q8 : ((mkS s).toList == ([105, 102] : List UInt8)) = false := nW [105, 102] HS8.out (by decide) (by rw [HS.out, HSS.out]; decide)
    have q9 : ((mkS s).toList == ([100, 111] : List UInt8)) = false := nW [100, 111] HS8.out (by decide) (by rw [HS.out, HSS.out]; decide)
    have hgs := (za (zf (wr.setCell ⟨gp, 4, none⟩ (.int .i64 (m1 : Nat))) (some g6)) (.inl rfl) (p := ⟨g6, 1, none⟩) (.int .u8 6))
    have hA := h8.kept (row := some g6) hgs (fun k e => by injection e with e; subst e; exact HG4B.out.2)
    have gA := (za g8 (.inr HG4W.out.2) (p := ⟨g6, 1, none⟩) (.int .u8 6))
    have r4A := zc hgs r48 HN46.out
    have r6A : World.rowIs ((wr.setCell ⟨gp, 4, none⟩ (.int .i64 (m1 : Nat))).setCell ⟨g6, 1, none⟩ (.int .u8 6)) g6 75 13 (stF 1 ⟨6, 0, 0, 0⟩ c0 (.slice none 0 0) (.slice none 0 0) (tk.ln : Nat)) := st_setO 6 r68
    have y1 := r68.cell (show 1 < 13 by omega)
    have x1 := r68.frozen 1
    dsimp only [stF, i0, c0] at y1
    clear h8 g8 r48 r68 hgs
    have t1A : World.cell? ((wr.setCell ⟨gp, 4, none⟩ (.int .i64 (m1 : Nat))).setCell ⟨g6, 1, none⟩ (.int .u8 6)) ⟨g5, 1, none⟩ = some (.string (mkS s)) := (World.cell?_of_block (Below.heap_setCell _ ⟨g6, 1, none⟩ _ g5 n56)).trans t18
    have hgs := (za (zf ((wr.setCell ⟨gp, 4, none⟩ (.int .i64 (m1 : Nat))).setCell ⟨g6, 1, none⟩ (.int .u8 6)) (some g6)) (.inl rfl) (p := ⟨g6, 1, none⟩) (.int .u8 5))
    have hX := hA.kept (row := some g6) hgs (fun k e => by injection e with e; subst e; exact HG4B.out.2)
    have gX := (za gA (.inr HG4W.out.2) (p := ⟨g6, 1, none⟩) (.int .u8 5))
    have r4X := zc hgs r4A HN46.out
    have r6X : World.rowIs (((wr.setCell ⟨gp, 4, none⟩ (.int .i64 (m1 : Nat))).setCell ⟨g6, 1, none⟩ (.int .u8 6)).setCell ⟨g6, 1, none⟩ (.int .u8 5)) g6 75 13 (stF 1 ⟨5, 0, 0, 0⟩ c0 (.slice none 0 0) (.slice none 0 0) (tk.ln : Nat)) := st_setO 5 r6A
    have y1b := r6A.cell (show 1 < 13 by omega)
    have x1b := r6A.frozen 1
    dsimp only [stF, i0, c0] at y1b
    clear hA gA r4A r6A hgs
    have t1B : World.cell? (((wr.setCell ⟨gp, 4, none⟩ (.int .i64 (m1 : Nat))).setCell ⟨g6, 1, none⟩ (.int .u8 6)).setCell ⟨g6, 1, none⟩ (.int .u8 5)) ⟨g5, 1, none⟩ = some (.string (mkS s)) := (World.cell?_of_block (Below.heap_setCell _ ⟨g6, 1, none⟩ _ g5 n56)).trans t1A
    have hst := rstep_any hX
    rw [if_neg HK4.out] at hst
    have HM := Lib.hid (hst)
    have HHG := Lib.hid gX
    have HHR4 := Lib.hid r4X
    have HHR6 := Lib.hid r6X
    clear gX r4X r6X
    go_wp2_with fail
    refine HM.out.mono ?_
    rintro e W6 ⟨rfl, hB, hgn⟩
    have gB := zd HHG.out hgn
    have r4B := zc hgn HHR4.out HN4.out
    have r6B := zc hgn HHR6.out HN6.out
    clear HM HHG HHR4 HHR6
    clear hst hgn hX
    clear q0 q1 q2 q3 q4 q5 q6 q7 q8 q9
    clear y1 x1 t18 t1A y1b x1b t1B
    have HM := Lib.hid (rtakeplace_any hB)
    have HHG := Lib.hid gB
    have HHR4 := Lib.hid r4B
    have HHR6 := Lib.hid r6B
    clear gB r4B r6B
    go_wp2_with fail
    refine HM.out.mono ?_
    rintro e W7 ⟨n, l2, b2, hn6, rfl, hC, hrn, hgn⟩
    have gC := zd HHG.out hgn
    have r4C := zc hgn HHR4.out HN4.out
    have r6C := zc hgn HHR6.out HN6.out
    clear HM HHG HHR4 HHR6
    have HRN := Lib.hid hrn
    clear hrn hn6 hgn hB
    have hgs := (za (zf W7 (some g6)) (.inl rfl) (p := ⟨g6, 2, none⟩) (.int .i64 (n : Nat)))
    have hD := hC.kept (row := some g6) hgs (fun k e => by injection e with e; subst e; exact HG4B.out.2)
    have gD := (za gC (.inr HG4W.out.2) (p := ⟨g6, 2, none⟩) (.int .i64 (n : Nat)))
    have r4D := zc hgs r4C HN46.out
    have r6D : World.rowIs (W7.setCell ⟨g6, 2, none⟩ (.int .i64 (n : Nat))) g6 75 13 (stF 1 ⟨5, (n : Nat), 0, 0⟩ c0 (.slice none 0 0) (.slice none 0 0) (tk.ln : Nat)) := (r6C.set 2 (.int .i64 (n : Nat))).congr fun i hi => by
     match i, hi with
     | 0, _ => rfl
     | 1, _ => rfl
     | 2, _ => rfl
     | 3, _ => rfl
     | 4, _ => rfl
     | 5, _ => rfl
     | 6, _ => rfl
     | 7, _ => rfl
     | 8, _ => rfl
     | 9, _ => rfl
     | 10, _ => rfl
     | 11, _ => rfl
     | 12, _ => rfl
    have y2 := r6C.cell (show 2 < 13 by omega)
    have x2 := r6C.frozen 2
    dsimp only [stF, i0, c0] at y2
    clear hC gC r4C r6C hgs
    have H6 := Lib.hid hD
    have HG := Lib.hid gD
    have HR6 := Lib.hid r6D
    have HR4' := Lib.hid r4D
    have HTB := Lib.hid (Tr.nil (W7.setCell ⟨g6, 2, none⟩ (.int .i64 (n : Nat))) (fun k => g6 < k))
    have HTE := Lib.hid (Tr.nil (W7.setCell ⟨g6, 2, none⟩ (.int .i64 (n : Nat))) (fun k => g6 < k))
    have a0 := r6D.cell (show 0 < 13 by omega)
    have b0 := r4D.cell (show 0 < 13 by omega)
    have z0 := r4D.frozen 0
    have a1 := r6D.cell (show 1 < 13 by omega)
    have b1 := r4D.cell (show 1 < 13 by omega)
    have z1 := r4D.frozen 1
    have a2 := r6D.cell (show 2 < 13 by omega)
    have b2 := r4D.cell (show 2 < 13 by omega)
    have z2 := r4D.frozen 2
    have a3 := r6D.cell (show 3 < 13 by omega)
    have b3 := r4D.cell (show 3 < 13 by omega)
    have z3 := r4D.frozen 3
    have a4 := r6D.cell (show 4 < 13 by omega)
    have b4 := r4D.cell (show 4 < 13 by omega)
    have z4 := r4D.frozen 4
    have a5 := r6D.cell (show 5 < 13 by omega)
    have b5 := r4D.cell (show 5 < 13 by omega)
    have z5 := r4D.frozen 5
    have a6 := r6D.cell (show 6 < 13 by omega)
    have b6 := r4D.cell (show 6 < 13 by omega)
    have z6 := r4D.frozen 6
    have a7 := r6D.cell (show 7 < 13 by omega)
    have b7 := r4D.cell (show 7 < 13 by omega)
    have z7 := r4D.frozen 7
    have a8 := r6D.cell (show 8 < 13 by omega)
    have b8 := r4D.cell (show 8 < 13 by omega)
    have z8 := r4D.frozen 8
    have a9 := r6D.cell (show 9 < 13 by omega)
    have b9 := r4D.cell (show 9 < 13 by omega)
    have z9 := r4D.frozen 9
    have a10 := r6D.cell (show 10 < 13 by omega)
    have b10 := r4D.cell (show 10 < 13 by omega)
    have z10 := r4D.frozen 10
    have a11 := r6D.cell (show 11 < 13 by omega)
    have b11 := r4D.cell (show 11 < 13 by omega)
    have z11 := r4D.frozen 11
    have a12 := r6D.cell (show 12 < 13 by omega)
    have b12 := r4D.cell (show 12 < 13 by omega)
    have z12 := r4D.frozen 12
    dsimp only [stF, i0, c0] at a0 b0 a1 b1 a2 b2 a3 b3 a4 b4 a5 b5 a6 b6 a7 b7 a8 b8 a9 b9 a10 b10 a11 b11 a12 b12
    clear hD gD r6D r4D
    go_wp2_with fail
    (try simp only [Exit.inBlock, Exit.then])
    have hx0 := (za (za (za (za (za (za (za (za (za (za (za (za (za (zf (W7.setCell ⟨g6, 2, none⟩ (.int .i64 (n : Nat))) (some g4)) (.inl rfl) (p := ⟨g4, 0, none⟩) (.int .u8 (1 : Nat))) (.inl rfl) (p := ⟨g4, 1, none⟩) (.int .u8 (5 : Nat))) (.inl rfl) (p := ⟨g4, 2, none⟩) (.int .i64 (n : Nat))) (.inl rfl) (p := ⟨g4, 3, none⟩) (.int .i64 0)) (.inl rfl) (p := ⟨g4, 4, none⟩) (.int .i64 0)) (.inl rfl) (p := ⟨g4, 5, none⟩) (.bool false)) (.inl rfl) (p := ⟨g4, 6, none⟩) (.int .u8 (0 : Nat))) (.inl rfl) (p := ⟨g4, 7, none⟩) (.int .i64 0)) (.inl rfl) (p := ⟨g4, 8, none⟩) (.int .i64 0)) (.inl rfl) (p := ⟨g4, 9, none⟩) (.int .i64 0)) (.inl rfl) (p := ⟨g4, 10, none⟩) (.slice none 0 0)) (.inl rfl) (p := ⟨g4, 11, none⟩) (.slice none 0 0)) (.inl rfl) (p := ⟨g4, 12, none⟩) (.int .i64 (tk.ln : Nat)))
    have hx1 := st_all 1 ⟨5, (n : Nat), 0, 0⟩ ⟨false, ⟨0, 0, 0, 0⟩⟩ (.slice none 0 0) (.slice none 0 0) ((tk.ln : Nat)) HR4'.out
    have hx2 := H6.out.kept (row := some g4) hx0 (fun k e => by injection e with e; subst e; exact HG4B.out.1)
    have hx3 := (za (za (za (za (za (za (za (za (za (za (za (za (za HG.out (.inr HG4W.out.1) (p := ⟨g4, 0, none⟩) (.int .u8 (1 : Nat))) (.inr HG4W.out.1) (p := ⟨g4, 1, none⟩) (.int .u8 (5 : Nat))) (.inr HG4W.out.1) (p := ⟨g4, 2, none⟩) (.int .i64 (n : Nat))) (.inr HG4W.out.1) (p := ⟨g4, 3, none⟩) (.int .i64 0)) (.inr HG4W.out.1) (p := ⟨g4, 4, none⟩) (.int .i64 0)) (.inr HG4W.out.1) (p := ⟨g4, 5, none⟩) (.bool false)) (.inr HG4W.out.1) (p := ⟨g4, 6, none⟩) (.int .u8 (0 : Nat))) (.inr HG4W.out.1) (p := ⟨g4, 7, none⟩) (.int .i64 0)) (.inr HG4W.out.1) (p := ⟨g4, 8, none⟩) (.int .i64 0)) (.inr HG4W.out.1) (p := ⟨g4, 9, none⟩) (.int .i64 0)) (.inr HG4W.out.1) (p := ⟨g4, 10, none⟩) (.slice none 0 0)) (.inr HG4W.out.1) (p := ⟨g4, 11, none⟩) (.slice none 0 0)) (.inr HG4W.out.1) (p := ⟨g4, 12, none⟩) (.int .i64 (tk.ln : Nat)))
    have hx4 := HTB.out.grown hx0 (fun k hk e => by injection e with e; have := HE3.out; have hk' : g6 < k := hk; omega)
    have hx5 := HTE.out.grown hx0 (fun k hk e => by injection e with e; have := HE3.out; have hk' : g6 < k := hk; omega)
    have hx4 := hx4.mono (S' := fun k => w.heap.size ≤ k) (fun k hk _ => by have := HG4.out; have := HE3.out; have hk' : g6 < k := hk; omega)
    have hx5 := hx5.mono (S' := fun k => w.heap.size ≤ k) (fun k hk _ => by have := HG4.out; have := HE3.out; have hk' : g6 < k := hk; omega)
    clear hx0
    dsimp only at hx1 hx2 hx3 hx4 hx5 ⊢
    generalize ((((((((((((((W7.setCell ⟨g6, 2, none⟩ (.int .i64 (n : Nat))).setCell ⟨g4, 0, none⟩ (.int .u8 (1 : Nat))).setCell ⟨g4, 1, none⟩ (.int .u8 (5 : Nat))).setCell ⟨g4, 2, none⟩ (.int .i64 (n : Nat))).setCell ⟨g4, 3, none⟩ (.int .i64 0)).setCell ⟨g4, 4, none⟩ (.int .i64 0)).setCell ⟨g4, 5, none⟩ (.bool false)).setCell ⟨g4, 6, none⟩ (.int .u8 (0 : Nat))).setCell ⟨g4, 7, none⟩ (.int .i64 0)).setCell ⟨g4, 8, none⟩ (.int .i64 0)).setCell ⟨g4, 9, none⟩ (.int .i64 0)).setCell ⟨g4, 10, none⟩ (.slice none 0 0)).setCell ⟨g4, 11, none⟩ (.slice none 0 0)).setCell ⟨g4, 12, none⟩ (.int .i64 (tk.ln : Nat))) = W99 at hx1 hx2 hx3 hx4 hx5 ⊢
    refine bodyPost_ret (st_results rfl _ _ g4 rfl hx1) rfl ?_
    exact ⟨⟨1, ⟨5, (n : Nat), 0, 0⟩, ⟨false, ⟨0, 0, 0, 0⟩⟩, .nil, .nil, (tk.ln : Nat)⟩, .slice none 0 0, .slice none 0 0, l2, _, m1, rfl, hx4, hx5, hx2, (fun _ => HM500.out), by rw [HT.out, HM1.out]; exact kst (α := Unit) (st_una HL.out (by rw [HSS.out]; rfl) (by rw [HSS.out]; rfl : look unaL (hd l).s = some 5)) (rel_una HRN.out), hx3⟩
set_option maxRecDepth 100000 in
set_option maxHeartbeats 40000000 in
theorem rstmt_store (dp : Nat) (hd20 : dp ≤ 20) (blk : Blk) (h : RS B w gp l none many) (hm : many < 500) (hss : (hd l).s = [114]) :
  Calls Try.prog 77 #[.pointer (some ⟨gp, 0, none⟩), .int .i64 dp] w (RStPost (stmt false blk) B gp w l many) := by
 have HKN : Hid (Known (hd l).s) := by unfold Hid; rw [hss]; exact (known_mem _).2 (by decide)
 have HK4 : Hid ((hd l).k ≠ 4) := (h.tl.hd_s (by rw [hss]; decide)).1
 have hkk : (hd l).k = 1 := wordk h.tl.hd_ok (by rw [hss]; decide) (by rw [hss]; decide)
 have HSS := Lib.hid hss
 clear hss
 obtain ⟨m1, hm1⟩ : ∃ m1, m1 = many + 1 := ⟨_, rfl⟩
 have hw1 : IntKind.i64.wrap ((many : Int) + 1) = (m1 : Int) := by rw [IntKind.wrap_i64]; omega; all_goals omega
 have hm501 : m1 ≤ 501 := by omega
 have HM1 := Lib.hid hm1
 have HM500 : Hid (m1 ≤ 500) := by unfold Hid; omega
 have htest : ¬ (500 : Int) < m1 := by omega
 have htest2 : ¬ (20 : Int) < dp := by omega
 have HL : Hid (¬ (500 < many + 1 ∨ false = true)) := by unfold Hid; simp; omega
 clear hm hd20 hm1
 have HKK := Lib.hid hkk
 clear hkk
 have hb1 : Below w.heap.size w (w.alloc zZ1) := (Below.refl _ _).alloc (Nat.le_refl _) _
 have h1 := h.below hb1
 have hr4 := st_row (k := 0) (i := i0) (c := c0) (vb := .slice none 0 0) (ve := .slice none 0 0) (ln := 0) (heap_alloc_new w zZ1)
 obtain ⟨tk, htk⟩ : ∃ tk, tk = hd l := ⟨_, rfl⟩
 have hN1 := rnow_any h1
 rw [← htk] at hN1
 have HN1 := Lib.hid hN1
 have HW := Lib.hid (And.intro h.bw h.bp)
 have HOK : Hid (TokOk tk) := by rw [htk]; exact h.tl.hd_ok
 have H1 := Lib.hid h1
 have HB1 := Lib.hid hb1
 have HR4 := Lib.hid hr4
 have HT := Lib.hid htk
 have hf3 := tok_f3
 have e1 : (w.alloc zZ1).heap.size = w.heap.size + 1 := World.size_alloc _ _
 have HE1 := Lib.hid e1
 clear h htk h1 hb1 hr4 hN1 e1
 go_enter Try.func77, Try.ntmps77
 go_wp2_with fail
 have hgg := HE1.out
 have hp := H1.out
 have r4 := HR4.out
 have hbw := HB1.out
 have HN1' := HN1.out
 clear H1 HR4 HB1 HN1 HE1
 generalize w.alloc zZ1 = W1 at *
 obtain ⟨g4, hg4⟩ : ∃ g4, g4 = w.heap.size := ⟨_, rfl⟩
 rw [← hg4] at r4 hgg ⊢
 have HG4 := Lib.hid hg4
 have HH := Lib.hid (And.intro hp (And.intro r4 (And.intro hbw hgg)))
 clear hp r4 hbw hgg hg4
 refine HN1'.mono ?_
 rintro e Wa ⟨rfl, hba⟩
 clear HN1'
 have hba2 : Below Wa.heap.size Wa (Wa.alloc (zZ3 tk)) := (Below.refl _ _).alloc (Nat.le_refl _) _
 have h2 := (HH.out.1.below hba).below hba2
 have hN2 := rnow_any h2
 rw [← HT.out] at hN2
 have HN2x := Lib.hid hN2
 have HP2 := Lib.hid h2
 have R42 := Lib.hid (ze hba2 (ze hba HH.out.2.1 HH.out.2.1.lt) (ze hba HH.out.2.1 HH.out.2.1.lt).lt)
 have R62 := Lib.hid (st_row (k := 1) (i := i0) (c := c0) (vb := .slice none 0 0) (ve := .slice none 0 0) (ln := tk.ln) (heap_alloc_new Wa (zZ3 tk)))
 have HGA := Lib.hid (zd (zb HH.out.2.2.1 (some gp)) (zd (zb hba (some gp)) (zb hba2 (some gp))))
 have HE3 : Hid (g4 < Wa.heap.size ∧ True ∧ True) := ⟨by have := HH.out.2.2.2; have := hba.size; omega, trivial, trivial⟩
 clear h2 hN2 hba hba2 HH
 go_wp2_with fail
 generalize Wa.alloc (zZ3 tk) = Wc at *
 obtain ⟨g6, hg6⟩ : ∃ g6, g6 = Wa.heap.size := ⟨_, rfl⟩
 rw [← hg6] at R62 HE3 ⊢
 clear hg6 hf3 Wa
 refine HN2x.out.mono ?_
 rintro e Wb ⟨rfl, hb⟩
 have hbt : Below Wb.heap.size Wb (Wb.alloc (.cells #[.int .u8 tk.k, .string (mkS tk.s), .int .i64 tk.n, .int .i64 tk.ln] 60)) := (Below.refl _ _).alloc (Nat.le_refl _) _
 have HP := Lib.hid ((HP2.out.below hb).below hbt)
 have R4 := Lib.hid (ze hbt (ze hb R42.out R42.out.lt) (ze hb R42.out R42.out.lt).lt)
 have R6 := Lib.hid (ze hbt (ze hb R62.out R62.out.lt) (ze hb R62.out R62.out.lt).lt)
 have G1 := Lib.hid (zd HGA.out (zd (zb hb (some gp)) (zb hbt (some gp))))
 obtain ⟨d0, d1, d2, d3⟩ := al_four Wb tk
 have HD1 := Lib.hid d1
 have HL5x : Hid (Wb.heap.size < (Wb.alloc (.cells #[.int .u8 tk.k, .string (mkS tk.s), .int .i64 tk.n, .int .i64 tk.ln] 60)).heap.size) := by unfold Hid; rw [World.size_alloc]; omega
 have HN46 : Hid (g4 ≠ g6) := by have := HE3.out; unfold Hid; omega
 have HN64 : Hid (g6 ≠ g4) := by have := HE3.out; unfold Hid; omega
 have HN4 : Hid (g4 ≠ gp) := by have := HW.out; have := HG4.out; unfold Hid; omega
 have HN6 : Hid (g6 ≠ gp) := by have := HW.out; have := HG4.out; have := HE3.out; unfold Hid; omega
 have HG4B : Hid (B ≤ g4 ∧ B ≤ g6) := by have := HW.out; have := HG4.out; have := HE3.out; unfold Hid; omega
 have HG4W : Hid (w.heap.size ≤ g4 ∧ w.heap.size ≤ g6) := by have := HG4.out; have := HE3.out; unfold Hid; omega
 have HN5 : Hid (Wb.heap.size ≠ gp ∧ Wb.heap.size ≠ g4 ∧ Wb.heap.size ≠ g6) := by
  have h1 := hb.size; have h2 := R62.out.lt; have := HW.out; have := HG4.out; have := HE3.out; unfold Hid; omega
 obtain ⟨s, hs⟩ : ∃ s, s = tk.s := ⟨_, rfl⟩
 have HS8 : Hid (∀ x ∈ s, x < 256) := by rw [hs]; exact HOK.out.1
 have HS : Hid (s = (hd l).s) := by rw [← HT.out]; exact hs
 clear HN2x HP2 R42 R62 HGA hb hbt d2 d3
 have KK : Hid (tk.k = 1) := by unfold Hid; rw [HT.out]; exact HKK.out
 have k1I : ((tk.k : Int) != 1) = false := by rw [show tk.k = 1 from KK.out]; rfl
 go_wp2_with fail
 try rw [show Wb.heap.size + 1 = (Wb.alloc (.cells #[.int .u8 tk.k, .string (mkS tk.s), .int .i64 tk.n, .int .i64 tk.ln] 60)).heap.size from (World.size_alloc _ _).symm]
 obtain ⟨g5, hg5⟩ : ∃ g5, g5 = Wb.heap.size := ⟨_, rfl⟩
 rw [← hs] at HD1 ⊢
 have T1 : Hid ((Wb.alloc (.cells #[.int .u8 tk.k, .string (mkS s), .int .i64 tk.n, .int .i64 tk.ln] 60)).cell? ⟨g5, 1, none⟩ = some (.string (mkS s))) := by rw [hg5]; exact HD1.out
 have HL5 := HL5x
 rw [← hs] at HP R4 R6 G1 HL5
 rw [← hg5] at HL5 HN5 ⊢
 generalize Wb.alloc (.cells #[.int .u8 tk.k, .string (mkS s), .int .i64 tk.n, .int .i64 tk.ln] 60) = Wd at *
 clear hg5 HD1 HL5x d0 d1 Wb hs
 clear k1I
 have hcn : ∀ i (hi : i < knownS.length), (Wd.alloc zZ5).cell? ⟨(World.heap Wd).size, i, none⟩ = some (.string (mkS knownS[i])) := fun i hi => by
  rw [cell_of_row _ _ _ _ _ _ (heap_alloc_new _ _)]
  match i, hi with
  | 0, _ => rfl
  | 1, _ => rfl
  | 2, _ => rfl
  | 3, _ => rfl
  | 4, _ => rfl
  | 5, _ => rfl
  | 6, _ => rfl
  | 7, _ => rfl
  | 8, _ => rfl
  | 9, _ => rfl
  | 10, _ => rfl
  | 11, _ => rfl
  | 12, _ => rfl
  | 13, _ => rfl
  | 14, _ => rfl
 have HCN := Lib.hid hcn
 have hb : Below (World.heap Wd).size Wd (Wd.alloc zZ5) := (Below.refl _ _).alloc (Nat.le_refl _) _
 replace HP := Lib.hid (HP.out.below hb)
 replace G1 := Lib.hid (zd G1.out (zb hb (some gp)))
 replace R4 := Lib.hid (ze hb R4.out R4.out.lt)
 replace R6 := Lib.hid (ze hb R6.out R6.out.lt)
 replace T1 := Lib.hid ((hb.cell (World.block_lt_of_cell? _ _ T1.out)).trans T1.out)
 replace HL5 : Hid (g5 < _) := Nat.lt_of_lt_of_le HL5.out hb.size
 clear hb
 clear hcn
 generalize World.alloc Wd zZ5 = X at *
 generalize (World.heap Wd).size = g7 at *
 have R0 : ∃ i : Nat, (Value.int .i64 0) = .int .i64 i ∧ i ≤ 15 ∧ (Value.bool false) = .bool (decide (s ∈ knownS.take i)) ∧ Below X.heap.size X X := ⟨0, rfl, by omega, by simp, Below.refl _ _⟩
 go_loopw [8, 9] (fun v8 v9 wr => ∃ i : Nat, v9 = .int .i64 i ∧ i ≤ 15 ∧ v8 = .bool (decide (s ∈ knownS.take i)) ∧ Below X.heap.size X wr) (fun _ v _ => 15 - (intOf v).toNat)
 case atStart => exact R0
 case round =>
  clear R0
  obtain ⟨i, rfl, hi, rfl, hb⟩ := hrel
  by_cases hl : i < 15
  · have hlI : (i : Int) < 15 := by omega
    have i0' : (0 : Int) ≤ i := by omega
    have iT : ((i : Int)).toNat = i := by omega
    have hwi : IntKind.i64.wrap ((i : Int) + 1) = ((i + 1 : Nat) : Int) := by rw [IntKind.wrap_i64]; omega; all_goals omega
    have hlk : i < knownS.length := hl
    have hci := (hb.cell (World.block_lt_of_cell? _ _ (HCN.out i hlk))).trans (HCN.out i hlk)
    obtain ⟨x, hx⟩ : ∃ x, x = knownS[i] := ⟨_, rfl⟩
    rw [← hx] at hci
    have htk : knownS.take (i + 1) = knownS.take i ++ [x] := by rw [hx, List.take_succ_eq_append_getElem hlk]
    have hx8 := knownS_b8 x (by rw [hx]; exact List.getElem_mem hlk)
    have HTK := Lib.hid htk
    have HB := Lib.hid hb
    by_cases hin : s ∈ knownS.take i
    · have hin2 : s ∈ knownS.take (i + 1) := by rw [htk]; exact List.mem_append_left _ hin
      rw [decide_eq_true hin]
      have HIN := Lib.hid hin2
      have HLL := Lib.hid hl
      clear hin hin2 htk hx hx8 hb hl
      go_wp2_with fail
      go_roundw
      case rel => exact ⟨i + 1, rfl, HLL.out, by rw [decide_eq_true HIN.out], HB.out⟩
      case measure => show 15 - (i + 1 : Nat) < 15 - i; have := HLL.out; omega
    · rw [decide_eq_false hin]
      have HI := Lib.hid (ris_any (HP.out.below hb) (mkS x) x rfl hx8.1 hx8.2)
      rw [← HS.out] at HI
      have HIN := Lib.hid hin
      have HLL := Lib.hid hl
      clear hin htk hx hx8 hb hl
      obtain ⟨r, hr⟩ : ∃ r, r = decide (s = x) := ⟨_, rfl⟩
      rw [← hr] at HI
      have HRR := Lib.hid hr
      clear hr
      go_wp2_with fail
      refine HI.out.mono ?_
      rintro e w3 ⟨rfl, hb3⟩
      have HB3 := Lib.hid (HB.out.trans (hb3.mono HB.out.size))
      clear hb3 HI
      go_wp2_with fail
      go_roundw
      case rel =>
       refine ⟨i + 1, rfl, HLL.out, ?_, HB3.out⟩
       rw [HRR.out, HTK.out]
       have hin := HIN.out
       congr 1
       rw [Bool.eq_iff_iff, decide_eq_true_eq, decide_eq_true_eq, List.mem_append, List.mem_singleton]
       exact ⟨fun e => .inr e, fun e => by rcases e with e | e; exact absurd e hin; exact e⟩
      case measure => show 15 - (i + 1 : Nat) < 15 - i; have := HLL.out; omega
  · have hlI : ¬ (i : Int) < 15 := by omega
    have hii : i = 15 := by omega
    subst hii
    rw [show knownS.take 15 = knownS from rfl]
    have HB := Lib.hid hb
    clear hb hl hi
    have hb := HB.out
    replace HP := Lib.hid (HP.out.below hb)
    replace G1 := Lib.hid (zd G1.out (zb hb (some gp)))
    replace R4 := Lib.hid (ze hb R4.out R4.out.lt)
    replace R6 := Lib.hid (ze hb R6.out R6.out.lt)
    replace T1 := Lib.hid ((hb.cell (World.block_lt_of_cell? _ _ T1.out)).trans T1.out)
    replace HL5 : Hid (g5 < _) := Nat.lt_of_lt_of_le HL5.out hb.size
    clear hb
    clear HB HCN
    rw [decide_eq_true ((known_mem _).1 (HS.out ▸ HKN.out))]
    obtain ⟨gq, cq0, Lq, kq, qq, -⟩ := HP.out.ex
    have f4 : wr.cell? ⟨gp, 4, none⟩ = some (.int .i64 many) := qq.cell (show 4 < 5 by omega)
    have z4x := qq.frozen 4
    clear qq
    have h8 := HP.out.setM (m := m1) hm501
    have g8 := za G1.out (.inl rfl) (p := ⟨gp, 4, none⟩) (.int .i64 (m1 : Nat))
    have hgs : wr.grownBy (wr.setCell ⟨gp, 4, none⟩ (.int .i64 (m1 : Nat))) (some gp) := za (zf _ _) (.inl rfl) _
    have r48 := zc hgs R4.out HN4.out
    have r68 := zc hgs R6.out HN6.out
    have t18 : World.cell? (wr.setCell ⟨gp, 4, none⟩ (.int .i64 (m1 : Nat))) ⟨g5, 1, none⟩ = some (.string (mkS s)) := (grown_cell hgs (p := ⟨g5, 1, none⟩) (World.block_lt_of_cell? _ _ T1.out) HN5.out.1).trans T1.out
    have n5p := HN5.out.1
    have n56 := HN5.out.2.2
    have n65 : g6 ≠ g5 := fun e => HN5.out.2.2 e.symm
    have n54 := HN5.out.2.1
    clear HP G1 R4 R6 T1 hgs
    have q0 : ((mkS s).toList == ([104, 97, 108, 116] : List UInt8)) = false := nW [104, 97, 108, 116] HS8.out (by decide) (by rw [HS.out, HSS.out]; decide)
    have q1 : ((mkS s).toList == ([104, 97, 115, 104] : List UInt8)) = false := nW [104, 97, 115, 104] HS8.out (by decide) (by rw [HS.out, HSS.out]; decide)
    have q2 : ((mkS s).toList == ([104, 97, 115, 104, 100] : List UInt8)) = false := nW [104, 97, 115, 104, 100] HS8.out (by decide) (by rw [HS.out, HSS.out]; decide)
    have q3 : ((mkS s).toList == ([111, 117, 116] : List UInt8)) = false := nW [111, 117, 116] HS8.out (by decide) (by rw [HS.out, HSS.out]; decide)
    have q4 : ((mkS s).toList == ([122, 101, 114, 111] : List UInt8)) = false := nW [122, 101, 114, 111] HS8.out (by decide) (by rw [HS.out, HSS.out]; decide)
    have q5 : ((mkS s).toList == ([115, 119, 97, 112] : List UInt8)) = false := nW [115, 119, 97, 112] HS8.out (by decide) (by rw [HS.out, HSS.out]; decide)
    have q6 : ((mkS s).toList == ([126] : List UInt8)) = false := nW [126] HS8.out (by decide) (by rw [HS.out, HSS.out]; decide)
    have q7 : ((mkS s).toList == ([114] : List UInt8)) = true := by rw [show ([114] : List UInt8) = (mkS [114]).toList from (by rw [Lib.toList_data]; rfl), mkS_eq HS8.out (by decide)]; exact decide_eq_true (by rw [HS.out, HSS.out])
    have q8 : ((mkS s).toList == ([105, 102] : List UInt8)) = false := nW [105, 102] HS8.out (by decide) (by rw [HS.out, HSS.out]; decide)
    have q9 : ((mkS s).toList == ([100, 111] : List UInt8)) = false := nW [100, 111] HS8.out (by decide) (by rw [HS.out, HSS.out]; decide)
    have hgs := (za (zf (wr.setCell ⟨gp, 4, none⟩ (.int .i64 (m1 : Nat))) (some g6)) (.inl rfl) (p := ⟨g6, 1, none⟩) (.int .u8 23))
    have hA := h8.kept (row := some g6) hgs (fun k e => by injection e with e; subst e; exact HG4B.out.2)
    have gA := (za g8 (.inr HG4W.out.2) (p := ⟨g6, 1, none⟩) (.int .u8 23))
    have r4A := zc hgs r48 HN46.out
    have r6A : World.rowIs ((wr.setCell ⟨gp, 4, none⟩ (.int .i64 (m1 : Nat))).setCell ⟨g6, 1, none⟩ (.int .u8 23)) g6 75 13 (stF 1 ⟨23, 0, 0, 0⟩ c0 (.slice none 0 0) (.slice none 0 0) (tk.ln : Nat)) := st_setO 23 r68
    have y1 := r68.cell (show 1 < 13 by omega)
    have x1 := r68.frozen 1
    dsimp only [stF, i0, c0] at y1
    clear h8 g8 r48 r68 hgs
    have hst := rstep_any hA
    rw [if_neg HK4.out] at hst
    have HM := Lib.hid (hst)
    have HHG := Lib.hid gA
    have HHR4 := Lib.hid r4A
    have HHR6 := Lib.hid r6A
    clear gA r4A r6A
    go_wp2_with fail
    refine HM.out.mono ?_
    rintro e W6 ⟨rfl, hB, hgn⟩
    have gB := zd HHG.out hgn
    have r4B := zc hgn HHR4.out HN4.out
    have r6B := zc hgn HHR6.out HN6.out
    clear HM HHG HHR4 HHR6
    clear hst hgn hA
    clear q0 q1 q2 q3 q4 q5 q6 q7 q8 q9
    clear y1 x1
    have HM := Lib.hid (rnum_any hB 255 (by decide))
    have HHG := Lib.hid gB
    have HHR4 := Lib.hid r4B
    have HHR6 := Lib.hid r6B
    clear gB r4B r6B
    go_wp2_with fail
    refine HM.out.mono ?_
    rintro e W7 ⟨n, l1, b1, hn, rfl, hC, hrn, hgn⟩
    have gC := zd HHG.out hgn
    have r4C := zc hgn HHR4.out HN4.out
    have r6C := zc hgn HHR6.out HN6.out
    clear HM HHG HHR4 HHR6
    have HRN := Lib.hid hrn
    clear hrn hn hgn hB
    have hgs := (za (zf W7 (some g6)) (.inl rfl) (p := ⟨g6, 4, none⟩) (.int .i64 (n : Nat)))
    have hD := hC.kept (row := some g6) hgs (fun k e => by injection e with e; subst e; exact HG4B.out.2)
    have gD := (za gC (.inr HG4W.out.2) (p := ⟨g6, 4, none⟩) (.int .i64 (n : Nat)))
    have r4D := zc hgs r4C HN46.out
    have r6D : World.rowIs (W7.setCell ⟨g6, 4, none⟩ (.int .i64 (n : Nat))) g6 75 13 (stF 1 ⟨23, 0, 0, (n : Nat)⟩ c0 (.slice none 0 0) (.slice none 0 0) (tk.ln : Nat)) := (r6C.set 4 (.int .i64 (n : Nat))).congr fun i hi => by
     match i, hi with
     | 0, _ => rfl
     | 1, _ => rfl
     | 2, _ => rfl
     | 3, _ => rfl
     | 4, _ => rfl
     | 5, _ => rfl
     | 6, _ => rfl
     | 7, _ => rfl
     | 8, _ => rfl
     | 9, _ => rfl
     | 10, _ => rfl
     | 11, _ => rfl
     | 12, _ => rfl
    have y4 := r6C.cell (show 4 < 13 by omega)
    have x4 := r6C.frozen 4
    dsimp only [stF, i0, c0] at y4
    clear hC gC r4C r6C hgs
    have HM := Lib.hid (rtake_any hD ⟨#[61]⟩ [61] rfl (by decide) (by decide))
    have HHG := Lib.hid gD
    have HHR4 := Lib.hid r4D
    have HHR6 := Lib.hid r6D
    clear gD r4D r6D
    go_wp2_with fail
    refine HM.out.mono ?_
    rintro e W9 ⟨rfl, l2, b2, he, hr1, hgn⟩
    have ge := zd HHG.out hgn
    have r4e := zc hgn HHR4.out HN4.out
    have r6e := zc hgn HHR6.out HN6.out
    clear HM HHG HHR4 HHR6
    clear y4 x4
    have HR1 := Lib.hid hr1
    clear hr1 hgn hD
    have HM := Lib.hid (rtake_any he ⟨#[97]⟩ [97] rfl (by decide) (by decide))
    have HHG := Lib.hid ge
    have HHR4 := Lib.hid r4e
    have HHR6 := Lib.hid r6e
    clear ge r4e r6e
    go_wp2_with fail
    refine HM.out.mono ?_
    rintro e WA ⟨rfl, l3, b3, hf, hr1, hgn⟩
    have gf := zd HHG.out hgn
    have r4f := zc hgn HHR4.out HN4.out
    have r6f := zc hgn HHR6.out HN6.out
    clear HM HHG HHR4 HHR6
    have HR2 := Lib.hid hr1
    clear hr1 hgn he
    have H6 := Lib.hid hf
    have HG := Lib.hid gf
    have HR6 := Lib.hid r6f
    have HR4' := Lib.hid r4f
    have HTB := Lib.hid (Tr.nil WA (fun k => g6 < k))
    have HTE := Lib.hid (Tr.nil WA (fun k => g6 < k))
    have a0 := r6f.cell (show 0 < 13 by omega)
    have b0 := r4f.cell (show 0 < 13 by omega)
    have z0 := r4f.frozen 0
    have a1 := r6f.cell (show 1 < 13 by omega)
    have b1 := r4f.cell (show 1 < 13 by omega)
    have z1 := r4f.frozen 1
    have a2 := r6f.cell (show 2 < 13 by omega)
    have b2 := r4f.cell (show 2 < 13 by omega)
    have z2 := r4f.frozen 2
    have a3 := r6f.cell (show 3 < 13 by omega)
    have b3 := r4f.cell (show 3 < 13 by omega)
    have z3 := r4f.frozen 3
    have a4 := r6f.cell (show 4 < 13 by omega)
    have b4 := r4f.cell (show 4 < 13 by omega)
    have z4 := r4f.frozen 4
    have a5 := r6f.cell (show 5 < 13 by omega)
    have b5 := r4f.cell (show 5 < 13 by omega)
    have z5 := r4f.frozen 5
    have a6 := r6f.cell (show 6 < 13 by omega)
    have b6 := r4f.cell (show 6 < 13 by omega)
    have z6 := r4f.frozen 6
    have a7 := r6f.cell (show 7 < 13 by omega)
    have b7 := r4f.cell (show 7 < 13 by omega)
    have z7 := r4f.frozen 7
    have a8 := r6f.cell (show 8 < 13 by omega)
    have b8 := r4f.cell (show 8 < 13 by omega)
    have z8 := r4f.frozen 8
    have a9 := r6f.cell (show 9 < 13 by omega)
    have b9 := r4f.cell (show 9 < 13 by omega)
    have z9 := r4f.frozen 9
    have a10 := r6f.cell (show 10 < 13 by omega)
    have b10 := r4f.cell (show 10 < 13 by omega)
    have z10 := r4f.frozen 10
    have a11 := r6f.cell (show 11 < 13 by omega)
    have b11 := r4f.cell (show 11 < 13 by omega)
    have z11 := r4f.frozen 11
    have a12 := r6f.cell (show 12 < 13 by omega)
    have b12 := r4f.cell (show 12 < 13 by omega)
    have z12 := r4f.frozen 12
    dsimp only [stF, i0, c0] at a0 b0 a1 b1 a2 b2 a3 b3 a4 b4 a5 b5 a6 b6 a7 b7 a8 b8 a9 b9 a10 b10 a11 b11 a12 b12
    clear hf gf r6f r4f
    go_wp2_with fail
    (try simp only [Exit.inBlock, Exit.then])
    have hx0 := (za (za (za (za (za (za (za (za (za (za (za (za (za (zf WA (some g4)) (.inl rfl) (p := ⟨g4, 0, none⟩) (.int .u8 (1 : Nat))) (.inl rfl) (p := ⟨g4, 1, none⟩) (.int .u8 (23 : Nat))) (.inl rfl) (p := ⟨g4, 2, none⟩) (.int .i64 0)) (.inl rfl) (p := ⟨g4, 3, none⟩) (.int .i64 0)) (.inl rfl) (p := ⟨g4, 4, none⟩) (.int .i64 (n : Nat))) (.inl rfl) (p := ⟨g4, 5, none⟩) (.bool false)) (.inl rfl) (p := ⟨g4, 6, none⟩) (.int .u8 (0 : Nat))) (.inl rfl) (p := ⟨g4, 7, none⟩) (.int .i64 0)) (.inl rfl) (p := ⟨g4, 8, none⟩) (.int .i64 0)) (.inl rfl) (p := ⟨g4, 9, none⟩) (.int .i64 0)) (.inl rfl) (p := ⟨g4, 10, none⟩) (.slice none 0 0)) (.inl rfl) (p := ⟨g4, 11, none⟩) (.slice none 0 0)) (.inl rfl) (p := ⟨g4, 12, none⟩) (.int .i64 (tk.ln : Nat)))
    have hx1 := st_all 1 ⟨23, 0, 0, (n : Nat)⟩ ⟨false, ⟨0, 0, 0, 0⟩⟩ (.slice none 0 0) (.slice none 0 0) ((tk.ln : Nat)) HR4'.out
    have hx2 := H6.out.kept (row := some g4) hx0 (fun k e => by injection e with e; subst e; exact HG4B.out.1)
    have hx3 := (za (za (za (za (za (za (za (za (za (za (za (za (za HG.out (.inr HG4W.out.1) (p := ⟨g4, 0, none⟩) (.int .u8 (1 : Nat))) (.inr HG4W.out.1) (p := ⟨g4, 1, none⟩) (.int .u8 (23 : Nat))) (.inr HG4W.out.1) (p := ⟨g4, 2, none⟩) (.int .i64 0)) (.inr HG4W.out.1) (p := ⟨g4, 3, none⟩) (.int .i64 0)) (.inr HG4W.out.1) (p := ⟨g4, 4, none⟩) (.int .i64 (n : Nat))) (.inr HG4W.out.1) (p := ⟨g4, 5, none⟩) (.bool false)) (.inr HG4W.out.1) (p := ⟨g4, 6, none⟩) (.int .u8 (0 : Nat))) (.inr HG4W.out.1) (p := ⟨g4, 7, none⟩) (.int .i64 0)) (.inr HG4W.out.1) (p := ⟨g4, 8, none⟩) (.int .i64 0)) (.inr HG4W.out.1) (p := ⟨g4, 9, none⟩) (.int .i64 0)) (.inr HG4W.out.1) (p := ⟨g4, 10, none⟩) (.slice none 0 0)) (.inr HG4W.out.1) (p := ⟨g4, 11, none⟩) (.slice none 0 0)) (.inr HG4W.out.1) (p := ⟨g4, 12, none⟩) (.int .i64 (tk.ln : Nat)))
    have hx4 := HTB.out.grown hx0 (fun k hk e => by injection e with e; have := HE3.out; have hk' : g6 < k := hk; omega)
    have hx5 := HTE.out.grown hx0 (fun k hk e => by injection e with e; have := HE3.out; have hk' : g6 < k := hk; omega)
    have hx4 := hx4.mono (S' := fun k => w.heap.size ≤ k) (fun k hk _ => by have := HG4.out; have := HE3.out; have hk' : g6 < k := hk; omega)
    have hx5 := hx5.mono (S' := fun k => w.heap.size ≤ k) (fun k hk _ => by have := HG4.out; have := HE3.out; have hk' : g6 < k := hk; omega)
    clear hx0
    dsimp only at hx1 hx2 hx3 hx4 hx5 ⊢
    generalize (((((((((((((WA.setCell ⟨g4, 0, none⟩ (.int .u8 (1 : Nat))).setCell ⟨g4, 1, none⟩ (.int .u8 (23 : Nat))).setCell ⟨g4, 2, none⟩ (.int .i64 0)).setCell ⟨g4, 3, none⟩ (.int .i64 0)).setCell ⟨g4, 4, none⟩ (.int .i64 (n : Nat))).setCell ⟨g4, 5, none⟩ (.bool false)).setCell ⟨g4, 6, none⟩ (.int .u8 (0 : Nat))).setCell ⟨g4, 7, none⟩ (.int .i64 0)).setCell ⟨g4, 8, none⟩ (.int .i64 0)).setCell ⟨g4, 9, none⟩ (.int .i64 0)).setCell ⟨g4, 10, none⟩ (.slice none 0 0)).setCell ⟨g4, 11, none⟩ (.slice none 0 0)).setCell ⟨g4, 12, none⟩ (.int .i64 (tk.ln : Nat))) = W99 at hx1 hx2 hx3 hx4 hx5 ⊢
    refine bodyPost_ret (st_results rfl _ _ g4 rfl hx1) rfl ?_
    exact ⟨⟨1, ⟨23, 0, 0, (n : Nat)⟩, ⟨false, ⟨0, 0, 0, 0⟩⟩, .nil, .nil, (tk.ln : Nat)⟩, .slice none 0 0, .slice none 0 0, l3, _, m1, rfl, hx4, hx5, hx2, (fun _ => HM500.out), by rw [HT.out, HM1.out]; exact kst (α := Unit) (st_store HL.out (by rw [HSS.out]; rfl) (by rw [HSS.out]; rfl) (by rw [HSS.out]; rfl : look firL (hd l).s = some 1) HSS.out) (rel_store HRN.out HR1.out HR2.out), hx3⟩
end
end Go.Proofs.Ytiadfmhodlbkiaa
