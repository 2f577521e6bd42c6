/-
  THE WALK OF parse's onPlace. Conditions: a parser.
-/
import Derived.Test.YthmpagehmfillaaQ11
import Derived.Test.YthmpagehmfillaaQ02
namespace Go.Proofs.Ythmpagehmfillaa
open Go.RowKit
set_option linter.unusedSimpArgs false
set_option linter.unusedVariables false
/-- An instruction in memory, as a value. -/
def insF (c : InsS) : Nat → Value
  | 0 => .int .u8 c.o
  | 1 => .int .i64 c.d
  | 2 => .int .i64 c.s
  | _ => .int .i64 c.n
def insC (c : InsS) : Array Value := #[.int .u8 c.o, .int .i64 c.d, .int .i64 c.s, .int .i64 c.n]
theorem ins_row {w : World} {g : Nat} {t : TypeId} {c : InsS} (h : w.heap[g]? = some (.cells (insC c) t (0, 0))) : w.rowIs g t 4 (insF c) := ⟨_, h, rfl, fun i hi => by
  match i, hi with
  | 0, _ => rfl
  | 1, _ => rfl
  | 2, _ => rfl
  | 3, _ => rfl⟩
theorem ins_heap {w : World} {g : Nat} {t : TypeId} {c : InsS} (h : w.rowIs g t 4 (insF c)) : w.heap[g]? = some (.cells (insC c) t (0, 0)) := by
  obtain ⟨cs, h1, h2, h3⟩ := h
  rw [h1]
  have : cs = insC c := by
    apply Array.ext (by rw [h2]; rfl)
    intro i hi1 hi2
    have h4 := h3 i (by omega)
    have e : (insC c)[i]? = some (insF c i) := by
      rw [h2] at hi1
      match i, hi1 with
      | 0, _ => rfl
      | 1, _ => rfl
      | 2, _ => rfl
      | 3, _ => rfl
    rw [← e, Array.getElem?_eq_getElem hi1, Array.getElem?_eq_getElem hi2] at h4
    exact Option.some.inj h4
  rw [this]
theorem ins_set4 {w : World} {g : Nat} {t : TypeId} {f : Nat → Value} (c : InsS) (h : w.rowIs g t 4 f) :
    ((((w.setCell ⟨g, 0, none⟩ (.int .u8 c.o)).setCell ⟨g, 1, none⟩ (.int .i64 c.d)).setCell ⟨g, 2, none⟩ (.int .i64 c.s)).setCell ⟨g, 3, none⟩ (.int .i64 c.n)).rowIs g t 4 (insF c) :=
  ((((h.set 0 _).set 1 _).set 2 _).set 3 _).congr fun i hi => by
    match i, hi with
    | 0, _ => rfl
    | 1, _ => rfl
    | 2, _ => rfl
    | 3, _ => rfl
theorem ins_size : (Try.prog.info? 56).map (·.size) = some 4 := by kernel_rfl
theorem ins_results {fn : Func} {p : Tmp} (h : fn.results = #[.cell p 56]) (tmps : Array Value) (w : World) (g : Nat) (c : InsS) (hp : tmps.getD p undef = .pointer (some ⟨g, 0, none⟩)) (hr : w.rowIs g 56 4 (insF c)) : (results fn tmps).run Try.prog w = .ok (.agg (insC c)) w :=
  results_cell_row h tmps w g _ (insC c) (0, 0) _ hp (ins_heap hr) Try.underlying56 rfl ins_size
section
variable {w : World} {B gp gi : Nat} {l : List Tok} {b : Option Flt} {many : Nat}
theorem opsL_ne {s : List Nat} {n : Nat} (h : look opsL s = some n) : s ≠ [] ∧ n < 256 := by
  have h1 := look_mem h
  have h2 : ∀ x ∈ opsL, x.1 ≠ [] ∧ x.2 < 256 := by decide
  exact h2 _ h1
set_option maxRecDepth 100000 in
set_option maxHeartbeats 16000000 in
theorem ponplace_any (h : PS B w gp l b many) : Calls Try.prog 101 #[.pointer (some ⟨gp, 0, none⟩)] w fun e w' => ∃ c l' b', e = .returned (.agg (insC c)) ∧ PS B w' gp l' b' many ∧ Rel onPlace l b c l' b' ∧ w.grownBy w' (some gp) := by
  have hba : Below w.heap.size w (w.alloc (.cells (insC i0) 56)) := (Below.refl _ _).alloc (Nat.le_refl _) _
  have h1 := h.below hba
  have hr2 := ins_row (heap_alloc_new w (.cells (insC i0) 56))
  have HP := Lib.hid (pplace_any h1)
  have HW := Lib.hid (And.intro h.bw h.bp)
  have HB := Lib.hid hba
  have HR2 := Lib.hid hr2
  have hgx : w.heap.size ≠ gp := by have := h.bw; have := h.bp; omega
  have HGX := Lib.hid hgx
  clear h h1 hba hr2 hgx
  go_enter Try.func101, Try.ntmps101
  go_wp2_with fail
  refine HP.out.mono ?_
  rintro e W1 ⟨d, l1, b1, hd6, rfl, h1, hrel, hg1⟩
  have hr21 := grown_row hg1 HR2.out HGX.out
  have hg1' := nil_grown (grown_of_below HB.out (some gp)) hg1
  generalize hgz : w.heap.size = g2 at *
  have HG2 : Hid (w.heap.size ≤ g2) := by unfold Hid; omega
  have HGB : Hid (B ≤ g2) := by have := HW.out.1; unfold Hid; omega
  have HREL := Lib.hid hrel
  have HD6 := Lib.hid hd6
  obtain ⟨g, o, c, q1, q2, q3, q4, q5, q6⟩ := h1.ex
  obtain ⟨t0, t1, t2, t3⟩ := q6.head h1.tl
  have f0 : W1.cell? ⟨gp, 0, none⟩ = some (.slice (some ⟨g, o, none⟩) l1.length c) := q1.cell (by omega)
  have hl : 0 < l1.length := List.length_pos_iff.2 h1.tl.ne
  have hlI : (0 : Int) < l1.length := by omega
  obtain ⟨s, hs⟩ : ∃ s, s = (hd l1).s := ⟨_, rfl⟩
  have hs8 : B8 s := by rw [hs]; exact h1.tl.hd_ok.1
  rw [← hs] at t1
  have HS := Lib.hid hs
  have H1 := Lib.hid h1
  have F0 := Lib.hid f0
  have T1 := Lib.hid t1
  have HR21 := Lib.hid hr21
  have HG1 := Lib.hid hg1'
  clear h1 q1 q6 t0 t2 t3 hs hr21 hg1 hg1' hrel HP HB HR2 hd6
  have hmm := @run_makeMap Try.prog
  have hMB := MB.made W1
  cases hlk : look opsL s with
  | none =>
    have HLK := Lib.hid hlk
    go_wp2_with (first
      | (refine wpList_ins rfl _ _ _ _ rfl 9 54 Try.underlying177 Try.underlying9 _ _ rfl hMB _ rfl _ rfl (by rfl) ?_; clear hMB f0 t1; intro W5 hMB; have f0 := hMB.cell F0.out; have t1 := hMB.cell T1.out)
      | (refine wpList_lookN rfl _ _ _ rfl 9 54 .u8 Try.underlying177 Try.underlying9 zero_op _ opsL rfl (hMB.to (by kernel_rfl)) (by decide) s hs8 rfl ?_; rw [show lookN opsL s = _ from hlk]; dsimp only [Option.getD_some, Option.isSome_some, Option.getD_none, Option.isSome_none]))
    have hp5 := H1.out.be hMB
    have r5 := below_row hMB.be HR21.out HR21.out.lt
    have hg5 := nil_grown HG1.out (grown_of_below hMB.be (some gp))
    clear f0 t1 hMB
    clear hlk
    cases b1 with
    | some e0 =>
      refine (pok_any hp5).mono ?_
      rintro e w' ⟨rfl, rfl⟩
      have H6 := Lib.hid hp5
      have HG := Lib.hid hg5
      have H2 := Lib.hid r5
      have b0 := r5.cell (show 0 < 4 by omega)
      have b1' := r5.cell (show 1 < 4 by omega)
      have b2' := r5.cell (show 2 < 4 by omega)
      have b3 := r5.cell (show 3 < 4 by omega)
      have z0 := r5.frozen 0
      have z1 := r5.frozen 1
      have z2 := r5.frozen 2
      have z3 := r5.frozen 3
      dsimp only [insF, i0] at b0 b1' b2' b3
      clear hp5 hg5 r5
      go_wp2_with fail
      (try simp only [Exit.inBlock, Exit.then])
      have hx1 := ins_set4 ⟨0, 0, 0, 0⟩ H2.out
      have hx2 := H6.out.kept (row := some g2) (grown_set (grown_set (grown_set (grown_set (grown_refl _ _) (.inl rfl) (p := ⟨g2, 0, none⟩) (.int .u8 (0 : Nat))) (.inl rfl) (p := ⟨g2, 1, none⟩) (.int .i64 (0 : Nat))) (.inl rfl) (p := ⟨g2, 2, none⟩) (.int .i64 (0 : Nat))) (.inl rfl) (p := ⟨g2, 3, none⟩) (.int .i64 (0 : Nat))) (fun k e => by injection e with e; subst e; exact HGB.out)
      have hx3 := grown_set (grown_set (grown_set (grown_set HG.out (.inr HG2.out) (p := ⟨g2, 0, none⟩) (.int .u8 (0 : Nat))) (.inr HG2.out) (p := ⟨g2, 1, none⟩) (.int .i64 (0 : Nat))) (.inr HG2.out) (p := ⟨g2, 2, none⟩) (.int .i64 (0 : Nat))) (.inr HG2.out) (p := ⟨g2, 3, none⟩) (.int .i64 (0 : Nat))
      dsimp only at hx1 hx2 hx3 ⊢
      generalize ((((World.setCell W5 ⟨g2, 0, none⟩ (.int .u8 (0 : Nat))).setCell ⟨g2, 1, none⟩ (.int .i64 (0 : Nat))).setCell ⟨g2, 2, none⟩ (.int .i64 (0 : Nat))).setCell ⟨g2, 3, none⟩ (.int .i64 (0 : Nat))) = W99 at hx1 hx2 hx3 ⊢
      refine bodyPost_ret (ins_results rfl _ _ g2 ⟨0, 0, 0, 0⟩ rfl hx1) rfl ?_
      exact ⟨⟨0, 0, 0, 0⟩, l1, _, rfl, hx2, rel_onPlace HREL.out rfl, hx3⟩
    | none =>
      refine (pok_any hp5).mono ?_
      rintro e w' ⟨rfl, rfl⟩
      have HM := Lib.hid (pmay_any hp5 ⟨#[43, 43]⟩ [43, 43] rfl (by decide) (by decide))
      have HHR := Lib.hid r5
      have HHG := Lib.hid hg5
      clear hp5 hg5 r5
      go_wp2_with fail
      refine HM.out.mono ?_
      rintro e W6 ⟨ri, hqi, rfl, h6, hgn⟩
      simp only [Option.isNone_none, Bool.true_and] at hqi
      have r6 := grown_row hgn HHR.out HGX.out
      have g6 := nil_grown HHG.out hgn
      have HQri := Lib.hid hqi
      clear hqi hgn HM HHR HHG
      cases ri with
      | true =>
        rw [if_pos rfl] at h6
        have H6 := Lib.hid h6
        have HG := Lib.hid g6
        have H2 := Lib.hid r6
        have b0 := r6.cell (show 0 < 4 by omega)
        have b1' := r6.cell (show 1 < 4 by omega)
        have b2' := r6.cell (show 2 < 4 by omega)
        have b3 := r6.cell (show 3 < 4 by omega)
        have z0 := r6.frozen 0
        have z1 := r6.frozen 1
        have z2 := r6.frozen 2
        have z3 := r6.frozen 3
        dsimp only [insF, i0] at b0 b1' b2' b3
        clear h6 g6 r6
        go_wp2_with fail
        (try simp only [Exit.inBlock, Exit.then])
        have hx1 := ins_set4 ⟨3, d, 0, 0⟩ H2.out
        have hx2 := H6.out.kept (row := some g2) (grown_set (grown_set (grown_set (grown_set (grown_refl _ _) (.inl rfl) (p := ⟨g2, 0, none⟩) (.int .u8 (3 : Nat))) (.inl rfl) (p := ⟨g2, 1, none⟩) (.int .i64 (d : Nat))) (.inl rfl) (p := ⟨g2, 2, none⟩) (.int .i64 (0 : Nat))) (.inl rfl) (p := ⟨g2, 3, none⟩) (.int .i64 (0 : Nat))) (fun k e => by injection e with e; subst e; exact HGB.out)
        have hx3 := grown_set (grown_set (grown_set (grown_set HG.out (.inr HG2.out) (p := ⟨g2, 0, none⟩) (.int .u8 (3 : Nat))) (.inr HG2.out) (p := ⟨g2, 1, none⟩) (.int .i64 (d : Nat))) (.inr HG2.out) (p := ⟨g2, 2, none⟩) (.int .i64 (0 : Nat))) (.inr HG2.out) (p := ⟨g2, 3, none⟩) (.int .i64 (0 : Nat))
        dsimp only at hx1 hx2 hx3 ⊢
        generalize ((((World.setCell W6 ⟨g2, 0, none⟩ (.int .u8 (3 : Nat))).setCell ⟨g2, 1, none⟩ (.int .i64 (d : Nat))).setCell ⟨g2, 2, none⟩ (.int .i64 (0 : Nat))).setCell ⟨g2, 3, none⟩ (.int .i64 (0 : Nat))) = W99 at hx1 hx2 hx3 ⊢
        refine bodyPost_ret (ins_results rfl _ _ g2 ⟨3, d, 0, 0⟩ rfl hx1) rfl ?_
        exact ⟨⟨3, d, 0, 0⟩, l1.tail, _, rfl, hx2, rel_onPlace HREL.out (.ok (op_inc (of_decide_eq_true HQri.out.symm))), hx3⟩
      | false =>
        rw [if_neg (by decide)] at h6
        have hx1 : (hd l1).s ≠ [43, 43] := of_decide_eq_false HQri.out.symm
        have HX1 := Lib.hid hx1
        clear hx1
        have HM := Lib.hid (pmay_any h6 ⟨#[45, 45]⟩ [45, 45] rfl (by decide) (by decide))
        have HHR := Lib.hid r6
        have HHG := Lib.hid g6
        clear h6 g6 r6
        go_wp2_with fail
        refine HM.out.mono ?_
        rintro e W7 ⟨rd, hqd, rfl, h7, hgn⟩
        simp only [Option.isNone_none, Bool.true_and] at hqd
        have r7 := grown_row hgn HHR.out HGX.out
        have g7 := nil_grown HHG.out hgn
        have HQrd := Lib.hid hqd
        clear hqd hgn HM HHR HHG
        cases rd with
        | true =>
          rw [if_pos rfl] at h7
          have H6 := Lib.hid h7
          have HG := Lib.hid g7
          have H2 := Lib.hid r7
          have b0 := r7.cell (show 0 < 4 by omega)
          have b1' := r7.cell (show 1 < 4 by omega)
          have b2' := r7.cell (show 2 < 4 by omega)
          have b3 := r7.cell (show 3 < 4 by omega)
          have z0 := r7.frozen 0
          have z1 := r7.frozen 1
          have z2 := r7.frozen 2
          have z3 := r7.frozen 3
          dsimp only [insF, i0] at b0 b1' b2' b3
          clear h7 g7 r7
          go_wp2_with fail
          (try simp only [Exit.inBlock, Exit.then])
          have hx1 := ins_set4 ⟨4, d, 0, 0⟩ H2.out
          have hx2 := H6.out.kept (row := some g2) (grown_set (grown_set (grown_set (grown_set (grown_refl _ _) (.inl rfl) (p := ⟨g2, 0, none⟩) (.int .u8 (4 : Nat))) (.inl rfl) (p := ⟨g2, 1, none⟩) (.int .i64 (d : Nat))) (.inl rfl) (p := ⟨g2, 2, none⟩) (.int .i64 (0 : Nat))) (.inl rfl) (p := ⟨g2, 3, none⟩) (.int .i64 (0 : Nat))) (fun k e => by injection e with e; subst e; exact HGB.out)
          have hx3 := grown_set (grown_set (grown_set (grown_set HG.out (.inr HG2.out) (p := ⟨g2, 0, none⟩) (.int .u8 (4 : Nat))) (.inr HG2.out) (p := ⟨g2, 1, none⟩) (.int .i64 (d : Nat))) (.inr HG2.out) (p := ⟨g2, 2, none⟩) (.int .i64 (0 : Nat))) (.inr HG2.out) (p := ⟨g2, 3, none⟩) (.int .i64 (0 : Nat))
          dsimp only at hx1 hx2 hx3 ⊢
          generalize ((((World.setCell W7 ⟨g2, 0, none⟩ (.int .u8 (4 : Nat))).setCell ⟨g2, 1, none⟩ (.int .i64 (d : Nat))).setCell ⟨g2, 2, none⟩ (.int .i64 (0 : Nat))).setCell ⟨g2, 3, none⟩ (.int .i64 (0 : Nat))) = W99 at hx1 hx2 hx3 ⊢
          refine bodyPost_ret (ins_results rfl _ _ g2 ⟨4, d, 0, 0⟩ rfl hx1) rfl ?_
          exact ⟨⟨4, d, 0, 0⟩, l1.tail, _, rfl, hx2, rel_onPlace HREL.out (.ok (op_dec (of_decide_eq_true HQrd.out.symm))), hx3⟩
        | false =>
          rw [if_neg (by decide)] at h7
          have hx2 : (hd l1).s ≠ [45, 45] := of_decide_eq_false HQrd.out.symm
          have HX2 := Lib.hid hx2
          clear hx2
          have HM := Lib.hid (pmay_any h7 ⟨#[61]⟩ [61] rfl (by decide) (by decide))
          have HHR := Lib.hid r7
          have HHG := Lib.hid g7
          clear h7 g7 r7
          go_wp2_with fail
          refine HM.out.mono ?_
          rintro e W8 ⟨re, hqe, rfl, h8, hgn⟩
          simp only [Option.isNone_none, Bool.true_and] at hqe
          have r8 := grown_row hgn HHR.out HGX.out
          have g8 := nil_grown HHG.out hgn
          have HQre := Lib.hid hqe
          clear hqe hgn HM HHR HHG
          cases re with
          | false =>
            rw [if_neg (by decide)] at h8
            have HM := Lib.hid (pfail_any h8 121 (by decide))
            have HHR := Lib.hid r8
            have HHG := Lib.hid g8
            clear h8 g8 r8
            go_wp2_with fail
            refine HM.out.mono ?_
            rintro e W9 ⟨rfl, h9, hgn⟩
            have r9 := grown_row hgn HHR.out HGX.out
            have g9 := nil_grown HHG.out hgn
            clear hgn HM HHR HHG
            have hx4 : (hd l1).s ≠ [61] := of_decide_eq_false HQre.out.symm
            have HX4 := Lib.hid hx4
            clear hx4
            have H6 := Lib.hid h9
            have HG := Lib.hid g9
            have H2 := Lib.hid r9
            have b0 := r9.cell (show 0 < 4 by omega)
            have b1' := r9.cell (show 1 < 4 by omega)
            have b2' := r9.cell (show 2 < 4 by omega)
            have b3 := r9.cell (show 3 < 4 by omega)
            have z0 := r9.frozen 0
            have z1 := r9.frozen 1
            have z2 := r9.frozen 2
            have z3 := r9.frozen 3
            dsimp only [insF, i0] at b0 b1' b2' b3
            clear h9 g9 r9
            go_wp2_with fail
            (try simp only [Exit.inBlock, Exit.then])
            have hx1 := ins_set4 ⟨0, 0, 0, 0⟩ H2.out
            have hx2 := H6.out.kept (row := some g2) (grown_set (grown_set (grown_set (grown_set (grown_refl _ _) (.inl rfl) (p := ⟨g2, 0, none⟩) (.int .u8 (0 : Nat))) (.inl rfl) (p := ⟨g2, 1, none⟩) (.int .i64 (0 : Nat))) (.inl rfl) (p := ⟨g2, 2, none⟩) (.int .i64 (0 : Nat))) (.inl rfl) (p := ⟨g2, 3, none⟩) (.int .i64 (0 : Nat))) (fun k e => by injection e with e; subst e; exact HGB.out)
            have hx3 := grown_set (grown_set (grown_set (grown_set HG.out (.inr HG2.out) (p := ⟨g2, 0, none⟩) (.int .u8 (0 : Nat))) (.inr HG2.out) (p := ⟨g2, 1, none⟩) (.int .i64 (0 : Nat))) (.inr HG2.out) (p := ⟨g2, 2, none⟩) (.int .i64 (0 : Nat))) (.inr HG2.out) (p := ⟨g2, 3, none⟩) (.int .i64 (0 : Nat))
            dsimp only at hx1 hx2 hx3 ⊢
            generalize ((((World.setCell W9 ⟨g2, 0, none⟩ (.int .u8 (0 : Nat))).setCell ⟨g2, 1, none⟩ (.int .i64 (0 : Nat))).setCell ⟨g2, 2, none⟩ (.int .i64 (0 : Nat))).setCell ⟨g2, 3, none⟩ (.int .i64 (0 : Nat))) = W99 at hx1 hx2 hx3 ⊢
            refine bodyPost_ret (ins_results rfl _ _ g2 ⟨0, 0, 0, 0⟩ rfl hx1) rfl ?_
            exact ⟨⟨0, 0, 0, 0⟩, l1, _, rfl, hx2, rel_onPlace HREL.out (.err (op_err HX1.out HX2.out (fun e => by have := e.1; rw [← HS.out, HLK.out] at this; cases this) HX4.out)), hx3⟩
          | true =>
            rw [if_pos rfl] at h8
            have hx4 : (hd l1).s = [61] := of_decide_eq_true HQre.out.symm
            have HX4 := Lib.hid hx4
            clear hx4
            obtain ⟨ga, oa, ca, qa1, qa2, qa3, qa4, qa5, qa6⟩ := h8.ex
            obtain ⟨ta0, ta1, ta2, ta3⟩ := qa6.head h8.tl
            have fa0 : W8.cell? ⟨gp, 0, none⟩ = some (.slice (some ⟨ga, oa, none⟩) l1.tail.length ca) := qa1.cell (by omega)
            have hla : 0 < l1.tail.length := List.length_pos_iff.2 h8.tl.ne
            have hlaI : (0 : Int) < (l1.tail.length : Nat) := by omega
            generalize hna : l1.tail.length = na at fa0 hla hlaI
            clear qa1 qa6 ta1 ta2 ta3 hna
            by_cases hk : (hd l1.tail).k = 2
            · rw [hk] at ta0
              have HK := Lib.hid hk
              clear hk
              have HM := Lib.hid (pnum_any h8 255 (by decide))
              have HHR := Lib.hid r8
              have HHG := Lib.hid g8
              clear h8 g8 r8
              go_wp2_with fail
              refine HM.out.mono ?_
              rintro e W9 ⟨n, l2, b2, hn, rfl, h9, hrn, hgn⟩
              have r9 := grown_row hgn HHR.out HGX.out
              have g9 := nil_grown HHG.out hgn
              clear hgn HM HHR HHG
              have HRN := Lib.hid hrn
              clear hrn ta0 fa0
              have H6 := Lib.hid h9
              have HG := Lib.hid g9
              have H2 := Lib.hid r9
              have b0 := r9.cell (show 0 < 4 by omega)
              have b1' := r9.cell (show 1 < 4 by omega)
              have b2' := r9.cell (show 2 < 4 by omega)
              have b3 := r9.cell (show 3 < 4 by omega)
              have z0 := r9.frozen 0
              have z1 := r9.frozen 1
              have z2 := r9.frozen 2
              have z3 := r9.frozen 3
              dsimp only [insF, i0] at b0 b1' b2' b3
              clear h9 g9 r9
              go_wp2_with fail
              (try simp only [Exit.inBlock, Exit.then])
              have hx1 := ins_set4 ⟨2, d, 0, n⟩ H2.out
              have hx2 := H6.out.kept (row := some g2) (grown_set (grown_set (grown_set (grown_set (grown_refl _ _) (.inl rfl) (p := ⟨g2, 0, none⟩) (.int .u8 (2 : Nat))) (.inl rfl) (p := ⟨g2, 1, none⟩) (.int .i64 (d : Nat))) (.inl rfl) (p := ⟨g2, 2, none⟩) (.int .i64 (0 : Nat))) (.inl rfl) (p := ⟨g2, 3, none⟩) (.int .i64 (n : Nat))) (fun k e => by injection e with e; subst e; exact HGB.out)
              have hx3 := grown_set (grown_set (grown_set (grown_set HG.out (.inr HG2.out) (p := ⟨g2, 0, none⟩) (.int .u8 (2 : Nat))) (.inr HG2.out) (p := ⟨g2, 1, none⟩) (.int .i64 (d : Nat))) (.inr HG2.out) (p := ⟨g2, 2, none⟩) (.int .i64 (0 : Nat))) (.inr HG2.out) (p := ⟨g2, 3, none⟩) (.int .i64 (n : Nat))
              dsimp only at hx1 hx2 hx3 ⊢
              generalize ((((World.setCell W9 ⟨g2, 0, none⟩ (.int .u8 (2 : Nat))).setCell ⟨g2, 1, none⟩ (.int .i64 (d : Nat))).setCell ⟨g2, 2, none⟩ (.int .i64 (0 : Nat))).setCell ⟨g2, 3, none⟩ (.int .i64 (n : Nat))) = W99 at hx1 hx2 hx3 ⊢
              refine bodyPost_ret (ins_results rfl _ _ g2 ⟨2, d, 0, n⟩ rfl hx1) rfl ?_
              exact ⟨⟨2, d, 0, n⟩, l2, _, rfl, hx2, rel_onPlace HREL.out (.of (op_num HX4.out HK.out) (.map (g := fun n : Nat => (⟨2, d, 0, n⟩ : InsS)) HRN.out)), hx3⟩
            · have hkI : (((hd l1.tail).k : Int) == 2) = false := by rw [beq_eq_false_iff_ne]; omega
              have HK := Lib.hid hk
              clear hk
              have HI := Lib.hid (pis_any h8 ⟨#[114]⟩ [114] rfl (by decide) (by decide))
              go_wp2_with fail
              refine HI.out.mono ?_
              rintro e w' ⟨rfl, rfl⟩
              clear ta0 fa0 hkI HI
              simp only [Option.isNone_none, Bool.true_and]
              by_cases hr1 : (hd l1.tail).s = [114]
              · rw [decide_eq_true hr1]
                have HR1 := Lib.hid hr1
                have hk4 := (h8.tl.hd_s (by rw [hr1]; decide)).1
                have HK4 := Lib.hid hk4
                clear hr1 hk4
                have HRI := Lib.hid (right_any 22 (by decide) d 0 0 W8)
                have h8' := fun w' (hb : Below W8.heap.size W8 w') => h8.below hb
                have HH8 := Lib.hid h8'
                have HHR8 := Lib.hid r8
                have HHG8 := Lib.hid g8
                clear h8 h8' r8 g8
                go_wp2_with fail
                refine HRI.out.mono ?_
                rintro e W9 ⟨rfl, hb⟩
                have h9 := HH8.out W9 hb
                have r9 := below_row hb HHR8.out HHR8.out.lt
                have g9 := nil_grown HHG8.out (grown_of_below hb (some gp))
                clear hb HRI HH8 HHR8 HHG8
                by_cases hd3 : d ≤ 3
                · rw [if_pos (by have := HD6.out; match d, hd3 with | 0, _ => decide | 1, _ => decide | 2, _ => decide | 3, _ => decide)]
                  have HD3 := Lib.hid hd3
                  clear hd3
                  have hst := pstep_any h9
                  rw [if_neg HK4.out] at hst
                  have HM := Lib.hid (hst)
                  have HHR := Lib.hid r9
                  have HHG := Lib.hid g9
                  clear h9 g9 r9
                  go_wp2_with fail
                  refine HM.out.mono ?_
                  rintro e WA ⟨rfl, hA, hgn⟩
                  have rA := grown_row hgn HHR.out HGX.out
                  have gA := nil_grown HHG.out hgn
                  clear hgn HM HHR HHG
                  clear hst
                  have HM := Lib.hid (pnum_any hA 255 (by decide))
                  have HHR := Lib.hid rA
                  have HHG := Lib.hid gA
                  clear hA gA rA
                  go_wp2_with fail
                  refine HM.out.mono ?_
                  rintro e WB ⟨n, l2, b2, hn, rfl, hB, hrn, hgn⟩
                  have rB := grown_row hgn HHR.out HGX.out
                  have gB := nil_grown HHG.out hgn
                  clear hgn HM HHR HHG
                  have HRN := Lib.hid hrn
                  clear hrn
                  have H6 := Lib.hid hB
                  have HG := Lib.hid gB
                  have H2 := Lib.hid rB
                  have b0 := rB.cell (show 0 < 4 by omega)
                  have b1' := rB.cell (show 1 < 4 by omega)
                  have b2' := rB.cell (show 2 < 4 by omega)
                  have b3 := rB.cell (show 3 < 4 by omega)
                  have z0 := rB.frozen 0
                  have z1 := rB.frozen 1
                  have z2 := rB.frozen 2
                  have z3 := rB.frozen 3
                  dsimp only [insF, i0] at b0 b1' b2' b3
                  clear hB gB rB
                  go_wp2_with fail
                  (try simp only [Exit.inBlock, Exit.then])
                  have hx1 := ins_set4 ⟨22, d, 0, n⟩ H2.out
                  have hx2 := H6.out.kept (row := some g2) (grown_set (grown_set (grown_set (grown_set (grown_refl _ _) (.inl rfl) (p := ⟨g2, 0, none⟩) (.int .u8 (22 : Nat))) (.inl rfl) (p := ⟨g2, 1, none⟩) (.int .i64 (d : Nat))) (.inl rfl) (p := ⟨g2, 2, none⟩) (.int .i64 (0 : Nat))) (.inl rfl) (p := ⟨g2, 3, none⟩) (.int .i64 (n : Nat))) (fun k e => by injection e with e; subst e; exact HGB.out)
                  have hx3 := grown_set (grown_set (grown_set (grown_set HG.out (.inr HG2.out) (p := ⟨g2, 0, none⟩) (.int .u8 (22 : Nat))) (.inr HG2.out) (p := ⟨g2, 1, none⟩) (.int .i64 (d : Nat))) (.inr HG2.out) (p := ⟨g2, 2, none⟩) (.int .i64 (0 : Nat))) (.inr HG2.out) (p := ⟨g2, 3, none⟩) (.int .i64 (n : Nat))
                  dsimp only at hx1 hx2 hx3 ⊢
                  generalize ((((World.setCell WB ⟨g2, 0, none⟩ (.int .u8 (22 : Nat))).setCell ⟨g2, 1, none⟩ (.int .i64 (d : Nat))).setCell ⟨g2, 2, none⟩ (.int .i64 (0 : Nat))).setCell ⟨g2, 3, none⟩ (.int .i64 (n : Nat))) = W99 at hx1 hx2 hx3 ⊢
                  refine bodyPost_ret (ins_results rfl _ _ g2 ⟨22, d, 0, n⟩ rfl hx1) rfl ?_
                  exact ⟨⟨22, d, 0, n⟩, l2, _, rfl, hx2, rel_onPlace HREL.out (.of (op_load HX4.out HK.out HR1.out HD3.out) (.map (g := fun n : Nat => (⟨22, d, 0, n⟩ : InsS)) HRN.out)), hx3⟩
                · rw [if_neg (by have := HD6.out; match d, hd3, this with | 0, h, _ => exact absurd (by decide) h | 1, h, _ => exact absurd (by decide) h | 2, h, _ => exact absurd (by decide) h | 3, h, _ => exact absurd (by decide) h | 4, _, _ => decide | 5, _, _ => decide | 6, _, _ => decide)]
                  have HD3 := Lib.hid hd3
                  clear hd3
                  have HM := Lib.hid (pplace_any h9)
                  have HHR := Lib.hid r9
                  have HHG := Lib.hid g9
                  clear h9 g9 r9
                  go_wp2_with fail
                  refine HM.out.mono ?_
                  rintro e WA ⟨n, l2, b2, hn, rfl, hA, hrn, hgn⟩
                  have rA := grown_row hgn HHR.out HGX.out
                  have gA := nil_grown HHG.out hgn
                  clear hgn HM HHR HHG
                  have HRN := Lib.hid hrn
                  clear hrn
                  have H6 := Lib.hid hA
                  have HG := Lib.hid gA
                  have H2 := Lib.hid rA
                  have b0 := rA.cell (show 0 < 4 by omega)
                  have b1' := rA.cell (show 1 < 4 by omega)
                  have b2' := rA.cell (show 2 < 4 by omega)
                  have b3 := rA.cell (show 3 < 4 by omega)
                  have z0 := rA.frozen 0
                  have z1 := rA.frozen 1
                  have z2 := rA.frozen 2
                  have z3 := rA.frozen 3
                  dsimp only [insF, i0] at b0 b1' b2' b3
                  clear hA gA rA
                  go_wp2_with fail
                  (try simp only [Exit.inBlock, Exit.then])
                  have hx1 := ins_set4 ⟨1, d, n, 0⟩ H2.out
                  have hx2 := H6.out.kept (row := some g2) (grown_set (grown_set (grown_set (grown_set (grown_refl _ _) (.inl rfl) (p := ⟨g2, 0, none⟩) (.int .u8 (1 : Nat))) (.inl rfl) (p := ⟨g2, 1, none⟩) (.int .i64 (d : Nat))) (.inl rfl) (p := ⟨g2, 2, none⟩) (.int .i64 (n : Nat))) (.inl rfl) (p := ⟨g2, 3, none⟩) (.int .i64 (0 : Nat))) (fun k e => by injection e with e; subst e; exact HGB.out)
                  have hx3 := grown_set (grown_set (grown_set (grown_set HG.out (.inr HG2.out) (p := ⟨g2, 0, none⟩) (.int .u8 (1 : Nat))) (.inr HG2.out) (p := ⟨g2, 1, none⟩) (.int .i64 (d : Nat))) (.inr HG2.out) (p := ⟨g2, 2, none⟩) (.int .i64 (n : Nat))) (.inr HG2.out) (p := ⟨g2, 3, none⟩) (.int .i64 (0 : Nat))
                  dsimp only at hx1 hx2 hx3 ⊢
                  generalize ((((World.setCell WA ⟨g2, 0, none⟩ (.int .u8 (1 : Nat))).setCell ⟨g2, 1, none⟩ (.int .i64 (d : Nat))).setCell ⟨g2, 2, none⟩ (.int .i64 (n : Nat))).setCell ⟨g2, 3, none⟩ (.int .i64 (0 : Nat))) = W99 at hx1 hx2 hx3 ⊢
                  refine bodyPost_ret (ins_results rfl _ _ g2 ⟨1, d, n, 0⟩ rfl hx1) rfl ?_
                  exact ⟨⟨1, d, n, 0⟩, l2, _, rfl, hx2, rel_onPlace HREL.out (.of (op_set HX4.out HK.out (fun e => HD3.out e.2)) (.map (g := fun s : Nat => (⟨1, d, s, 0⟩ : InsS)) HRN.out)), hx3⟩
              · rw [decide_eq_false hr1]
                have HR1 := Lib.hid hr1
                clear hr1
                have HM := Lib.hid (pplace_any h8)
                have HHR := Lib.hid r8
                have HHG := Lib.hid g8
                clear h8 g8 r8
                go_wp2_with fail
                refine HM.out.mono ?_
                rintro e WA ⟨n, l2, b2, hn, rfl, hA, hrn, hgn⟩
                have rA := grown_row hgn HHR.out HGX.out
                have gA := nil_grown HHG.out hgn
                clear hgn HM HHR HHG
                have HRN := Lib.hid hrn
                clear hrn
                have H6 := Lib.hid hA
                have HG := Lib.hid gA
                have H2 := Lib.hid rA
                have b0 := rA.cell (show 0 < 4 by omega)
                have b1' := rA.cell (show 1 < 4 by omega)
                have b2' := rA.cell (show 2 < 4 by omega)
                have b3 := rA.cell (show 3 < 4 by omega)
                have z0 := rA.frozen 0
                have z1 := rA.frozen 1
                have z2 := rA.frozen 2
                have z3 := rA.frozen 3
                dsimp only [insF, i0] at b0 b1' b2' b3
                clear hA gA rA
                go_wp2_with fail
                (try simp only [Exit.inBlock, Exit.then])
                have hx1 := ins_set4 ⟨1, d, n, 0⟩ H2.out
                have hx2 := H6.out.kept (row := some g2) (grown_set (grown_set (grown_set (grown_set (grown_refl _ _) (.inl rfl) (p := ⟨g2, 0, none⟩) (.int .u8 (1 : Nat))) (.inl rfl) (p := ⟨g2, 1, none⟩) (.int .i64 (d : Nat))) (.inl rfl) (p := ⟨g2, 2, none⟩) (.int .i64 (n : Nat))) (.inl rfl) (p := ⟨g2, 3, none⟩) (.int .i64 (0 : Nat))) (fun k e => by injection e with e; subst e; exact HGB.out)
                have hx3 := grown_set (grown_set (grown_set (grown_set HG.out (.inr HG2.out) (p := ⟨g2, 0, none⟩) (.int .u8 (1 : Nat))) (.inr HG2.out) (p := ⟨g2, 1, none⟩) (.int .i64 (d : Nat))) (.inr HG2.out) (p := ⟨g2, 2, none⟩) (.int .i64 (n : Nat))) (.inr HG2.out) (p := ⟨g2, 3, none⟩) (.int .i64 (0 : Nat))
                dsimp only at hx1 hx2 hx3 ⊢
                generalize ((((World.setCell WA ⟨g2, 0, none⟩ (.int .u8 (1 : Nat))).setCell ⟨g2, 1, none⟩ (.int .i64 (d : Nat))).setCell ⟨g2, 2, none⟩ (.int .i64 (n : Nat))).setCell ⟨g2, 3, none⟩ (.int .i64 (0 : Nat))) = W99 at hx1 hx2 hx3 ⊢
                refine bodyPost_ret (ins_results rfl _ _ g2 ⟨1, d, n, 0⟩ rfl hx1) rfl ?_
                exact ⟨⟨1, d, n, 0⟩, l2, _, rfl, hx2, rel_onPlace HREL.out (.of (op_set HX4.out HK.out (fun e => HR1.out e.1)) (.map (g := fun s : Nat => (⟨1, d, s, 0⟩ : InsS)) HRN.out)), hx3⟩
  | some op =>
    have hn := opsL_ne hlk
    have HK4 : Hid ((hd l1).k ≠ 4) := (H1.out.tl.hd_s (by rw [← HS.out]; exact hn.1)).1
    have HLK := Lib.hid hlk
    clear hn
    go_wp2_with (first
      | (refine wpList_ins rfl _ _ _ _ rfl 9 54 Try.underlying177 Try.underlying9 _ _ rfl hMB _ rfl _ rfl (by rfl) ?_; clear hMB f0 t1; intro W5 hMB; have f0 := hMB.cell F0.out; have t1 := hMB.cell T1.out)
      | (refine wpList_lookN rfl _ _ _ rfl 9 54 .u8 Try.underlying177 Try.underlying9 zero_op _ opsL rfl (hMB.to (by kernel_rfl)) (by decide) s hs8 rfl ?_; rw [show lookN opsL s = _ from hlk]; dsimp only [Option.getD_some, Option.isSome_some, Option.getD_none, Option.isSome_none]))
    have hp5 := H1.out.be hMB
    have r5 := below_row hMB.be HR21.out HR21.out.lt
    have hg5 := nil_grown HG1.out (grown_of_below hMB.be (some gp))
    clear f0 t1 hMB
    clear hlk
    cases b1 with
    | some e0 =>
      refine (pok_any hp5).mono ?_
      rintro e w' ⟨rfl, rfl⟩
      have H6 := Lib.hid hp5
      have HG := Lib.hid hg5
      have H2 := Lib.hid r5
      have b0 := r5.cell (show 0 < 4 by omega)
      have b1' := r5.cell (show 1 < 4 by omega)
      have b2' := r5.cell (show 2 < 4 by omega)
      have b3 := r5.cell (show 3 < 4 by omega)
      have z0 := r5.frozen 0
      have z1 := r5.frozen 1
      have z2 := r5.frozen 2
      have z3 := r5.frozen 3
      dsimp only [insF, i0] at b0 b1' b2' b3
      clear hp5 hg5 r5
      go_wp2_with fail
      (try simp only [Exit.inBlock, Exit.then])
      have hx1 := ins_set4 ⟨0, 0, 0, 0⟩ H2.out
      have hx2 := H6.out.kept (row := some g2) (grown_set (grown_set (grown_set (grown_set (grown_refl _ _) (.inl rfl) (p := ⟨g2, 0, none⟩) (.int .u8 (0 : Nat))) (.inl rfl) (p := ⟨g2, 1, none⟩) (.int .i64 (0 : Nat))) (.inl rfl) (p := ⟨g2, 2, none⟩) (.int .i64 (0 : Nat))) (.inl rfl) (p := ⟨g2, 3, none⟩) (.int .i64 (0 : Nat))) (fun k e => by injection e with e; subst e; exact HGB.out)
      have hx3 := grown_set (grown_set (grown_set (grown_set HG.out (.inr HG2.out) (p := ⟨g2, 0, none⟩) (.int .u8 (0 : Nat))) (.inr HG2.out) (p := ⟨g2, 1, none⟩) (.int .i64 (0 : Nat))) (.inr HG2.out) (p := ⟨g2, 2, none⟩) (.int .i64 (0 : Nat))) (.inr HG2.out) (p := ⟨g2, 3, none⟩) (.int .i64 (0 : Nat))
      dsimp only at hx1 hx2 hx3 ⊢
      generalize ((((World.setCell W5 ⟨g2, 0, none⟩ (.int .u8 (0 : Nat))).setCell ⟨g2, 1, none⟩ (.int .i64 (0 : Nat))).setCell ⟨g2, 2, none⟩ (.int .i64 (0 : Nat))).setCell ⟨g2, 3, none⟩ (.int .i64 (0 : Nat))) = W99 at hx1 hx2 hx3 ⊢
      refine bodyPost_ret (ins_results rfl _ _ g2 ⟨0, 0, 0, 0⟩ rfl hx1) rfl ?_
      exact ⟨⟨0, 0, 0, 0⟩, l1, _, rfl, hx2, rel_onPlace HREL.out rfl, hx3⟩
    | none =>
      refine (pok_any hp5).mono ?_
      rintro e w' ⟨rfl, rfl⟩
      have HM := Lib.hid (pmay_any hp5 ⟨#[43, 43]⟩ [43, 43] rfl (by decide) (by decide))
      have HHR := Lib.hid r5
      have HHG := Lib.hid hg5
      clear hp5 hg5 r5
      go_wp2_with fail
      refine HM.out.mono ?_
      rintro e W6 ⟨ri, hqi, rfl, h6, hgn⟩
      simp only [Option.isNone_none, Bool.true_and] at hqi
      have r6 := grown_row hgn HHR.out HGX.out
      have g6 := nil_grown HHG.out hgn
      have HQri := Lib.hid hqi
      clear hqi hgn HM HHR HHG
      cases ri with
      | true =>
        rw [if_pos rfl] at h6
        have H6 := Lib.hid h6
        have HG := Lib.hid g6
        have H2 := Lib.hid r6
        have b0 := r6.cell (show 0 < 4 by omega)
        have b1' := r6.cell (show 1 < 4 by omega)
        have b2' := r6.cell (show 2 < 4 by omega)
        have b3 := r6.cell (show 3 < 4 by omega)
        have z0 := r6.frozen 0
        have z1 := r6.frozen 1
        have z2 := r6.frozen 2
        have z3 := r6.frozen 3
        dsimp only [insF, i0] at b0 b1' b2' b3
        clear h6 g6 r6
        go_wp2_with fail
        (try simp only [Exit.inBlock, Exit.then])
        have hx1 := ins_set4 ⟨3, d, 0, 0⟩ H2.out
        have hx2 := H6.out.kept (row := some g2) (grown_set (grown_set (grown_set (grown_set (grown_refl _ _) (.inl rfl) (p := ⟨g2, 0, none⟩) (.int .u8 (3 : Nat))) (.inl rfl) (p := ⟨g2, 1, none⟩) (.int .i64 (d : Nat))) (.inl rfl) (p := ⟨g2, 2, none⟩) (.int .i64 (0 : Nat))) (.inl rfl) (p := ⟨g2, 3, none⟩) (.int .i64 (0 : Nat))) (fun k e => by injection e with e; subst e; exact HGB.out)
        have hx3 := grown_set (grown_set (grown_set (grown_set HG.out (.inr HG2.out) (p := ⟨g2, 0, none⟩) (.int .u8 (3 : Nat))) (.inr HG2.out) (p := ⟨g2, 1, none⟩) (.int .i64 (d : Nat))) (.inr HG2.out) (p := ⟨g2, 2, none⟩) (.int .i64 (0 : Nat))) (.inr HG2.out) (p := ⟨g2, 3, none⟩) (.int .i64 (0 : Nat))
        dsimp only at hx1 hx2 hx3 ⊢
        generalize ((((World.setCell W6 ⟨g2, 0, none⟩ (.int .u8 (3 : Nat))).setCell ⟨g2, 1, none⟩ (.int .i64 (d : Nat))).setCell ⟨g2, 2, none⟩ (.int .i64 (0 : Nat))).setCell ⟨g2, 3, none⟩ (.int .i64 (0 : Nat))) = W99 at hx1 hx2 hx3 ⊢
        refine bodyPost_ret (ins_results rfl _ _ g2 ⟨3, d, 0, 0⟩ rfl hx1) rfl ?_
        exact ⟨⟨3, d, 0, 0⟩, l1.tail, _, rfl, hx2, rel_onPlace HREL.out (.ok (op_inc (of_decide_eq_true HQri.out.symm))), hx3⟩
      | false =>
        rw [if_neg (by decide)] at h6
        have hx1 : (hd l1).s ≠ [43, 43] := of_decide_eq_false HQri.out.symm
        have HX1 := Lib.hid hx1
        clear hx1
        have HM := Lib.hid (pmay_any h6 ⟨#[45, 45]⟩ [45, 45] rfl (by decide) (by decide))
        have HHR := Lib.hid r6
        have HHG := Lib.hid g6
        clear h6 g6 r6
        go_wp2_with fail
        refine HM.out.mono ?_
        rintro e W7 ⟨rd, hqd, rfl, h7, hgn⟩
        simp only [Option.isNone_none, Bool.true_and] at hqd
        have r7 := grown_row hgn HHR.out HGX.out
        have g7 := nil_grown HHG.out hgn
        have HQrd := Lib.hid hqd
        clear hqd hgn HM HHR HHG
        cases rd with
        | true =>
          rw [if_pos rfl] at h7
          have H6 := Lib.hid h7
          have HG := Lib.hid g7
          have H2 := Lib.hid r7
          have b0 := r7.cell (show 0 < 4 by omega)
          have b1' := r7.cell (show 1 < 4 by omega)
          have b2' := r7.cell (show 2 < 4 by omega)
          have b3 := r7.cell (show 3 < 4 by omega)
          have z0 := r7.frozen 0
          have z1 := r7.frozen 1
          have z2 := r7.frozen 2
          have z3 := r7.frozen 3
          dsimp only [insF, i0] at b0 b1' b2' b3
          clear h7 g7 r7
          go_wp2_with fail
          (try simp only [Exit.inBlock, Exit.then])
          have hx1 := ins_set4 ⟨4, d, 0, 0⟩ H2.out
          have hx2 := H6.out.kept (row := some g2) (grown_set (grown_set (grown_set (grown_set (grown_refl _ _) (.inl rfl) (p := ⟨g2, 0, none⟩) (.int .u8 (4 : Nat))) (.inl rfl) (p := ⟨g2, 1, none⟩) (.int .i64 (d : Nat))) (.inl rfl) (p := ⟨g2, 2, none⟩) (.int .i64 (0 : Nat))) (.inl rfl) (p := ⟨g2, 3, none⟩) (.int .i64 (0 : Nat))) (fun k e => by injection e with e; subst e; exact HGB.out)
          have hx3 := grown_set (grown_set (grown_set (grown_set HG.out (.inr HG2.out) (p := ⟨g2, 0, none⟩) (.int .u8 (4 : Nat))) (.inr HG2.out) (p := ⟨g2, 1, none⟩) (.int .i64 (d : Nat))) (.inr HG2.out) (p := ⟨g2, 2, none⟩) (.int .i64 (0 : Nat))) (.inr HG2.out) (p := ⟨g2, 3, none⟩) (.int .i64 (0 : Nat))
          dsimp only at hx1 hx2 hx3 ⊢
          generalize ((((World.setCell W7 ⟨g2, 0, none⟩ (.int .u8 (4 : Nat))).setCell ⟨g2, 1, none⟩ (.int .i64 (d : Nat))).setCell ⟨g2, 2, none⟩ (.int .i64 (0 : Nat))).setCell ⟨g2, 3, none⟩ (.int .i64 (0 : Nat))) = W99 at hx1 hx2 hx3 ⊢
          refine bodyPost_ret (ins_results rfl _ _ g2 ⟨4, d, 0, 0⟩ rfl hx1) rfl ?_
          exact ⟨⟨4, d, 0, 0⟩, l1.tail, _, rfl, hx2, rel_onPlace HREL.out (.ok (op_dec (of_decide_eq_true HQrd.out.symm))), hx3⟩
        | false =>
          rw [if_neg (by decide)] at h7
          have hx2 : (hd l1).s ≠ [45, 45] := of_decide_eq_false HQrd.out.symm
          have HX2 := Lib.hid hx2
          clear hx2
          by_cases hd0 : d = 0
          · have HD0 := Lib.hid hd0
            have hdI : ((d : Int) == 0) = true := by rw [beq_iff_eq]; omega
            have hst := pstep_any h7
            rw [if_neg HK4.out] at hst
            clear hd0
            have HM := Lib.hid (hst)
            have HHR := Lib.hid r7
            have HHG := Lib.hid g7
            clear h7 g7 r7
            go_wp2_with fail
            refine HM.out.mono ?_
            rintro e W8 ⟨rfl, h8, hgn⟩
            have r8 := grown_row hgn HHR.out HGX.out
            have g8 := nil_grown HHG.out hgn
            clear hgn HM HHR HHG
            clear hst hdI
            have hbc : Below W8.heap.size W8 (W8.alloc (.cells (insC ⟨op, 0, 0, 0⟩) 56)) := (Below.refl _ _).alloc (Nat.le_refl _) _
            have h3 := ins_row (heap_alloc_new W8 (.cells (insC ⟨op, 0, 0, 0⟩) 56))
            have HO := Lib.hid (poperand_any (h8.below hbc) (grown_of_below hbc (some gp)) (Nat.le_refl W8.heap.size) h8.bw h3 (o := 0) (by omega) rfl)
            have HR8 := Lib.hid r8
            have HG8 := Lib.hid g8
            have HNE3 : Hid (W8.heap.size ≠ gp) := by have := h8.bp; have := h8.bw; unfold Hid; omega
            clear hbc h3 h8 r8 g8
            go_wp2_with fail
            refine HO.out.mono ?_
            rintro e W9 ⟨rfl, sv, nv, l', b', hs7, hn7, h9, h3', hrel, hg9⟩
            have g9 := nil_grown HG8.out hg9
            have r9 := grown_row hg9 HR8.out HGX.out
            generalize W8.heap.size = g3 at *
            have h3 : W9.rowIs g3 56 4 (insF ⟨op, 0, sv, nv⟩) := h3'.congr fun i hi => by
              match i, hi with
              | 0, _ => rfl
              | 1, _ => rfl
              | 2, _ => rfl
              | 3, _ => rfl
            have a0 := h3.cell (show 0 < 4 by omega)
            have a1 := h3.cell (show 1 < 4 by omega)
            have a2 := h3.cell (show 2 < 4 by omega)
            have a3 := h3.cell (show 3 < 4 by omega)
            dsimp only [insF] at a0 a1 a2 a3
            have HREL9 := Lib.hid hrel
            clear h3 h3' hrel hg9 HO HR8 HG8
            have H6 := Lib.hid h9
            have HG := Lib.hid g9
            have H2 := Lib.hid r9
            have b0 := r9.cell (show 0 < 4 by omega)
            have b1' := r9.cell (show 1 < 4 by omega)
            have b2' := r9.cell (show 2 < 4 by omega)
            have b3 := r9.cell (show 3 < 4 by omega)
            have z0 := r9.frozen 0
            have z1 := r9.frozen 1
            have z2 := r9.frozen 2
            have z3 := r9.frozen 3
            dsimp only [insF, i0] at b0 b1' b2' b3
            clear h9 g9 r9
            go_wp2_with fail
            (try simp only [Exit.inBlock, Exit.then])
            have hx1 := ins_set4 ⟨op, 0, sv, nv⟩ H2.out
            have hx2 := H6.out.kept (row := some g2) (grown_set (grown_set (grown_set (grown_set (grown_refl _ _) (.inl rfl) (p := ⟨g2, 0, none⟩) (.int .u8 (op : Nat))) (.inl rfl) (p := ⟨g2, 1, none⟩) (.int .i64 (0 : Nat))) (.inl rfl) (p := ⟨g2, 2, none⟩) (.int .i64 (sv : Nat))) (.inl rfl) (p := ⟨g2, 3, none⟩) (.int .i64 (nv : Nat))) (fun k e => by injection e with e; subst e; exact HGB.out)
            have hx3 := grown_set (grown_set (grown_set (grown_set HG.out (.inr HG2.out) (p := ⟨g2, 0, none⟩) (.int .u8 (op : Nat))) (.inr HG2.out) (p := ⟨g2, 1, none⟩) (.int .i64 (0 : Nat))) (.inr HG2.out) (p := ⟨g2, 2, none⟩) (.int .i64 (sv : Nat))) (.inr HG2.out) (p := ⟨g2, 3, none⟩) (.int .i64 (nv : Nat))
            dsimp only at hx1 hx2 hx3 ⊢
            generalize ((((World.setCell W9 ⟨g2, 0, none⟩ (.int .u8 (op : Nat))).setCell ⟨g2, 1, none⟩ (.int .i64 (0 : Nat))).setCell ⟨g2, 2, none⟩ (.int .i64 (sv : Nat))).setCell ⟨g2, 3, none⟩ (.int .i64 (nv : Nat))) = W99 at hx1 hx2 hx3 ⊢
            refine bodyPost_ret (ins_results rfl _ _ g2 ⟨op, 0, sv, nv⟩ rfl hx1) rfl ?_
            exact ⟨⟨op, 0, sv, nv⟩, l', _, rfl, hx2, rel_onPlace HREL.out (.of (op_op (HS.out ▸ HLK.out) HD0.out) (.map (g := fun x : Nat × Nat => (⟨op, 0, x.1, x.2⟩ : InsS)) HREL9.out)), hx3⟩
          · have HD0 := Lib.hid hd0
            have hdI : ((d : Int) == 0) = false := by rw [beq_eq_false_iff_ne]; omega
            clear hd0
            have HM := Lib.hid (pmay_any h7 ⟨#[61]⟩ [61] rfl (by decide) (by decide))
            have HHR := Lib.hid r7
            have HHG := Lib.hid g7
            clear h7 g7 r7
            go_wp2_with fail
            refine HM.out.mono ?_
            rintro e W8 ⟨re, hqe, rfl, h8, hgn⟩
            simp only [Option.isNone_none, Bool.true_and] at hqe
            have r8 := grown_row hgn HHR.out HGX.out
            have g8 := nil_grown HHG.out hgn
            have HQre := Lib.hid hqe
            clear hqe hgn HM HHR HHG
            cases re with
            | false =>
              rw [if_neg (by decide)] at h8
              have HM := Lib.hid (pfail_any h8 121 (by decide))
              have HHR := Lib.hid r8
              have HHG := Lib.hid g8
              clear h8 g8 r8
              go_wp2_with fail
              refine HM.out.mono ?_
              rintro e W9 ⟨rfl, h9, hgn⟩
              have r9 := grown_row hgn HHR.out HGX.out
              have g9 := nil_grown HHG.out hgn
              clear hgn HM HHR HHG
              have hx4 : (hd l1).s ≠ [61] := of_decide_eq_false HQre.out.symm
              have HX4 := Lib.hid hx4
              clear hx4
              have H6 := Lib.hid h9
              have HG := Lib.hid g9
              have H2 := Lib.hid r9
              have b0 := r9.cell (show 0 < 4 by omega)
              have b1' := r9.cell (show 1 < 4 by omega)
              have b2' := r9.cell (show 2 < 4 by omega)
              have b3 := r9.cell (show 3 < 4 by omega)
              have z0 := r9.frozen 0
              have z1 := r9.frozen 1
              have z2 := r9.frozen 2
              have z3 := r9.frozen 3
              dsimp only [insF, i0] at b0 b1' b2' b3
              clear h9 g9 r9
              go_wp2_with fail
              (try simp only [Exit.inBlock, Exit.then])
              have hx1 := ins_set4 ⟨0, 0, 0, 0⟩ H2.out
              have hx2 := H6.out.kept (row := some g2) (grown_set (grown_set (grown_set (grown_set (grown_refl _ _) (.inl rfl) (p := ⟨g2, 0, none⟩) (.int .u8 (0 : Nat))) (.inl rfl) (p := ⟨g2, 1, none⟩) (.int .i64 (0 : Nat))) (.inl rfl) (p := ⟨g2, 2, none⟩) (.int .i64 (0 : Nat))) (.inl rfl) (p := ⟨g2, 3, none⟩) (.int .i64 (0 : Nat))) (fun k e => by injection e with e; subst e; exact HGB.out)
              have hx3 := grown_set (grown_set (grown_set (grown_set HG.out (.inr HG2.out) (p := ⟨g2, 0, none⟩) (.int .u8 (0 : Nat))) (.inr HG2.out) (p := ⟨g2, 1, none⟩) (.int .i64 (0 : Nat))) (.inr HG2.out) (p := ⟨g2, 2, none⟩) (.int .i64 (0 : Nat))) (.inr HG2.out) (p := ⟨g2, 3, none⟩) (.int .i64 (0 : Nat))
              dsimp only at hx1 hx2 hx3 ⊢
              generalize ((((World.setCell W9 ⟨g2, 0, none⟩ (.int .u8 (0 : Nat))).setCell ⟨g2, 1, none⟩ (.int .i64 (0 : Nat))).setCell ⟨g2, 2, none⟩ (.int .i64 (0 : Nat))).setCell ⟨g2, 3, none⟩ (.int .i64 (0 : Nat))) = W99 at hx1 hx2 hx3 ⊢
              refine bodyPost_ret (ins_results rfl _ _ g2 ⟨0, 0, 0, 0⟩ rfl hx1) rfl ?_
              exact ⟨⟨0, 0, 0, 0⟩, l1, _, rfl, hx2, rel_onPlace HREL.out (.err (op_err HX1.out HX2.out (fun e => HD0.out e.2) HX4.out)), hx3⟩
            | true =>
              rw [if_pos rfl] at h8
              have hx4 : (hd l1).s = [61] := of_decide_eq_true HQre.out.symm
              have HX4 := Lib.hid hx4
              clear hx4
              obtain ⟨ga, oa, ca, qa1, qa2, qa3, qa4, qa5, qa6⟩ := h8.ex
              obtain ⟨ta0, ta1, ta2, ta3⟩ := qa6.head h8.tl
              have fa0 : W8.cell? ⟨gp, 0, none⟩ = some (.slice (some ⟨ga, oa, none⟩) l1.tail.length ca) := qa1.cell (by omega)
              have hla : 0 < l1.tail.length := List.length_pos_iff.2 h8.tl.ne
              have hlaI : (0 : Int) < (l1.tail.length : Nat) := by omega
              generalize hna : l1.tail.length = na at fa0 hla hlaI
              clear qa1 qa6 ta1 ta2 ta3 hna
              by_cases hk : (hd l1.tail).k = 2
              · rw [hk] at ta0
                have HK := Lib.hid hk
                clear hk
                have HM := Lib.hid (pnum_any h8 255 (by decide))
                have HHR := Lib.hid r8
                have HHG := Lib.hid g8
                clear h8 g8 r8
                go_wp2_with fail
                refine HM.out.mono ?_
                rintro e W9 ⟨n, l2, b2, hn, rfl, h9, hrn, hgn⟩
                have r9 := grown_row hgn HHR.out HGX.out
                have g9 := nil_grown HHG.out hgn
                clear hgn HM HHR HHG
                have HRN := Lib.hid hrn
                clear hrn ta0 fa0
                have H6 := Lib.hid h9
                have HG := Lib.hid g9
                have H2 := Lib.hid r9
                have b0 := r9.cell (show 0 < 4 by omega)
                have b1' := r9.cell (show 1 < 4 by omega)
                have b2' := r9.cell (show 2 < 4 by omega)
                have b3 := r9.cell (show 3 < 4 by omega)
                have z0 := r9.frozen 0
                have z1 := r9.frozen 1
                have z2 := r9.frozen 2
                have z3 := r9.frozen 3
                dsimp only [insF, i0] at b0 b1' b2' b3
                clear h9 g9 r9
                go_wp2_with fail
                (try simp only [Exit.inBlock, Exit.then])
                have hx1 := ins_set4 ⟨2, d, 0, n⟩ H2.out
                have hx2 := H6.out.kept (row := some g2) (grown_set (grown_set (grown_set (grown_set (grown_refl _ _) (.inl rfl) (p := ⟨g2, 0, none⟩) (.int .u8 (2 : Nat))) (.inl rfl) (p := ⟨g2, 1, none⟩) (.int .i64 (d : Nat))) (.inl rfl) (p := ⟨g2, 2, none⟩) (.int .i64 (0 : Nat))) (.inl rfl) (p := ⟨g2, 3, none⟩) (.int .i64 (n : Nat))) (fun k e => by injection e with e; subst e; exact HGB.out)
                have hx3 := grown_set (grown_set (grown_set (grown_set HG.out (.inr HG2.out) (p := ⟨g2, 0, none⟩) (.int .u8 (2 : Nat))) (.inr HG2.out) (p := ⟨g2, 1, none⟩) (.int .i64 (d : Nat))) (.inr HG2.out) (p := ⟨g2, 2, none⟩) (.int .i64 (0 : Nat))) (.inr HG2.out) (p := ⟨g2, 3, none⟩) (.int .i64 (n : Nat))
                dsimp only at hx1 hx2 hx3 ⊢
                generalize ((((World.setCell W9 ⟨g2, 0, none⟩ (.int .u8 (2 : Nat))).setCell ⟨g2, 1, none⟩ (.int .i64 (d : Nat))).setCell ⟨g2, 2, none⟩ (.int .i64 (0 : Nat))).setCell ⟨g2, 3, none⟩ (.int .i64 (n : Nat))) = W99 at hx1 hx2 hx3 ⊢
                refine bodyPost_ret (ins_results rfl _ _ g2 ⟨2, d, 0, n⟩ rfl hx1) rfl ?_
                exact ⟨⟨2, d, 0, n⟩, l2, _, rfl, hx2, rel_onPlace HREL.out (.of (op_num HX4.out HK.out) (.map (g := fun n : Nat => (⟨2, d, 0, n⟩ : InsS)) HRN.out)), hx3⟩
              · have hkI : (((hd l1.tail).k : Int) == 2) = false := by rw [beq_eq_false_iff_ne]; omega
                have HK := Lib.hid hk
                clear hk
                have HI := Lib.hid (pis_any h8 ⟨#[114]⟩ [114] rfl (by decide) (by decide))
                go_wp2_with fail
                refine HI.out.mono ?_
                rintro e w' ⟨rfl, rfl⟩
                clear ta0 fa0 hkI HI
                simp only [Option.isNone_none, Bool.true_and]
                by_cases hr1 : (hd l1.tail).s = [114]
                · rw [decide_eq_true hr1]
                  have HR1 := Lib.hid hr1
                  have hk4 := (h8.tl.hd_s (by rw [hr1]; decide)).1
                  have HK4 := Lib.hid hk4
                  clear hr1 hk4
                  have HRI := Lib.hid (right_any 22 (by decide) d 0 0 W8)
                  have h8' := fun w' (hb : Below W8.heap.size W8 w') => h8.below hb
                  have HH8 := Lib.hid h8'
                  have HHR8 := Lib.hid r8
                  have HHG8 := Lib.hid g8
                  clear h8 h8' r8 g8
                  go_wp2_with fail
                  refine HRI.out.mono ?_
                  rintro e W9 ⟨rfl, hb⟩
                  have h9 := HH8.out W9 hb
                  have r9 := below_row hb HHR8.out HHR8.out.lt
                  have g9 := nil_grown HHG8.out (grown_of_below hb (some gp))
                  clear hb HRI HH8 HHR8 HHG8
                  by_cases hd3 : d ≤ 3
                  · rw [if_pos (by have := HD6.out; match d, hd3 with | 0, _ => decide | 1, _ => decide | 2, _ => decide | 3, _ => decide)]
                    have HD3 := Lib.hid hd3
                    clear hd3
                    have hst := pstep_any h9
                    rw [if_neg HK4.out] at hst
                    have HM := Lib.hid (hst)
                    have HHR := Lib.hid r9
                    have HHG := Lib.hid g9
                    clear h9 g9 r9
                    go_wp2_with fail
                    refine HM.out.mono ?_
                    rintro e WA ⟨rfl, hA, hgn⟩
                    have rA := grown_row hgn HHR.out HGX.out
                    have gA := nil_grown HHG.out hgn
                    clear hgn HM HHR HHG
                    clear hst
                    have HM := Lib.hid (pnum_any hA 255 (by decide))
                    have HHR := Lib.hid rA
                    have HHG := Lib.hid gA
                    clear hA gA rA
                    go_wp2_with fail
                    refine HM.out.mono ?_
                    rintro e WB ⟨n, l2, b2, hn, rfl, hB, hrn, hgn⟩
                    have rB := grown_row hgn HHR.out HGX.out
                    have gB := nil_grown HHG.out hgn
                    clear hgn HM HHR HHG
                    have HRN := Lib.hid hrn
                    clear hrn
                    have H6 := Lib.hid hB
                    have HG := Lib.hid gB
                    have H2 := Lib.hid rB
                    have b0 := rB.cell (show 0 < 4 by omega)
                    have b1' := rB.cell (show 1 < 4 by omega)
                    have b2' := rB.cell (show 2 < 4 by omega)
                    have b3 := rB.cell (show 3 < 4 by omega)
                    have z0 := rB.frozen 0
                    have z1 := rB.frozen 1
                    have z2 := rB.frozen 2
                    have z3 := rB.frozen 3
                    dsimp only [insF, i0] at b0 b1' b2' b3
                    clear hB gB rB
                    go_wp2_with fail
                    (try simp only [Exit.inBlock, Exit.then])
                    have hx1 := ins_set4 ⟨22, d, 0, n⟩ H2.out
                    have hx2 := H6.out.kept (row := some g2) (grown_set (grown_set (grown_set (grown_set (grown_refl _ _) (.inl rfl) (p := ⟨g2, 0, none⟩) (.int .u8 (22 : Nat))) (.inl rfl) (p := ⟨g2, 1, none⟩) (.int .i64 (d : Nat))) (.inl rfl) (p := ⟨g2, 2, none⟩) (.int .i64 (0 : Nat))) (.inl rfl) (p := ⟨g2, 3, none⟩) (.int .i64 (n : Nat))) (fun k e => by injection e with e; subst e; exact HGB.out)
                    have hx3 := grown_set (grown_set (grown_set (grown_set HG.out (.inr HG2.out) (p := ⟨g2, 0, none⟩) (.int .u8 (22 : Nat))) (.inr HG2.out) (p := ⟨g2, 1, none⟩) (.int .i64 (d : Nat))) (.inr HG2.out) (p := ⟨g2, 2, none⟩) (.int .i64 (0 : Nat))) (.inr HG2.out) (p := ⟨g2, 3, none⟩) (.int .i64 (n : Nat))
                    dsimp only at hx1 hx2 hx3 ⊢
                    generalize ((((World.setCell WB ⟨g2, 0, none⟩ (.int .u8 (22 : Nat))).setCell ⟨g2, 1, none⟩ (.int .i64 (d : Nat))).setCell ⟨g2, 2, none⟩ (.int .i64 (0 : Nat))).setCell ⟨g2, 3, none⟩ (.int .i64 (n : Nat))) = W99 at hx1 hx2 hx3 ⊢
                    refine bodyPost_ret (ins_results rfl _ _ g2 ⟨22, d, 0, n⟩ rfl hx1) rfl ?_
                    exact ⟨⟨22, d, 0, n⟩, l2, _, rfl, hx2, rel_onPlace HREL.out (.of (op_load HX4.out HK.out HR1.out HD3.out) (.map (g := fun n : Nat => (⟨22, d, 0, n⟩ : InsS)) HRN.out)), hx3⟩
                  · rw [if_neg (by have := HD6.out; match d, hd3, this with | 0, h, _ => exact absurd (by decide) h | 1, h, _ => exact absurd (by decide) h | 2, h, _ => exact absurd (by decide) h | 3, h, _ => exact absurd (by decide) h | 4, _, _ => decide | 5, _, _ => decide | 6, _, _ => decide)]
                    have HD3 := Lib.hid hd3
                    clear hd3
                    have HM := Lib.hid (pplace_any h9)
                    have HHR := Lib.hid r9
                    have HHG := Lib.hid g9
                    clear h9 g9 r9
                    go_wp2_with fail
                    refine HM.out.mono ?_
                    rintro e WA ⟨n, l2, b2, hn, rfl, hA, hrn, hgn⟩
                    have rA := grown_row hgn HHR.out HGX.out
                    have gA := nil_grown HHG.out hgn
                    clear hgn HM HHR HHG
                    have HRN := Lib.hid hrn
                    clear hrn
                    have H6 := Lib.hid hA
                    have HG := Lib.hid gA
                    have H2 := Lib.hid rA
                    have b0 := rA.cell (show 0 < 4 by omega)
                    have b1' := rA.cell (show 1 < 4 by omega)
                    have b2' := rA.cell (show 2 < 4 by omega)
                    have b3 := rA.cell (show 3 < 4 by omega)
                    have z0 := rA.frozen 0
                    have z1 := rA.frozen 1
                    have z2 := rA.frozen 2
                    have z3 := rA.frozen 3
                    dsimp only [insF, i0] at b0 b1' b2' b3
                    clear hA gA rA
                    go_wp2_with fail
                    (try simp only [Exit.inBlock, Exit.then])
                    have hx1 := ins_set4 ⟨1, d, n, 0⟩ H2.out
                    have hx2 := H6.out.kept (row := some g2) (grown_set (grown_set (grown_set (grown_set (grown_refl _ _) (.inl rfl) (p := ⟨g2, 0, none⟩) (.int .u8 (1 : Nat))) (.inl rfl) (p := ⟨g2, 1, none⟩) (.int .i64 (d : Nat))) (.inl rfl) (p := ⟨g2, 2, none⟩) (.int .i64 (n : Nat))) (.inl rfl) (p := ⟨g2, 3, none⟩) (.int .i64 (0 : Nat))) (fun k e => by injection e with e; subst e; exact HGB.out)
                    have hx3 := grown_set (grown_set (grown_set (grown_set HG.out (.inr HG2.out) (p := ⟨g2, 0, none⟩) (.int .u8 (1 : Nat))) (.inr HG2.out) (p := ⟨g2, 1, none⟩) (.int .i64 (d : Nat))) (.inr HG2.out) (p := ⟨g2, 2, none⟩) (.int .i64 (n : Nat))) (.inr HG2.out) (p := ⟨g2, 3, none⟩) (.int .i64 (0 : Nat))
                    dsimp only at hx1 hx2 hx3 ⊢
                    generalize ((((World.setCell WA ⟨g2, 0, none⟩ (.int .u8 (1 : Nat))).setCell ⟨g2, 1, none⟩ (.int .i64 (d : Nat))).setCell ⟨g2, 2, none⟩ (.int .i64 (n : Nat))).setCell ⟨g2, 3, none⟩ (.int .i64 (0 : Nat))) = W99 at hx1 hx2 hx3 ⊢
                    refine bodyPost_ret (ins_results rfl _ _ g2 ⟨1, d, n, 0⟩ rfl hx1) rfl ?_
                    exact ⟨⟨1, d, n, 0⟩, l2, _, rfl, hx2, rel_onPlace HREL.out (.of (op_set HX4.out HK.out (fun e => HD3.out e.2)) (.map (g := fun s : Nat => (⟨1, d, s, 0⟩ : InsS)) HRN.out)), hx3⟩
                · rw [decide_eq_false hr1]
                  have HR1 := Lib.hid hr1
                  clear hr1
                  have HM := Lib.hid (pplace_any h8)
                  have HHR := Lib.hid r8
                  have HHG := Lib.hid g8
                  clear h8 g8 r8
                  go_wp2_with fail
                  refine HM.out.mono ?_
                  rintro e WA ⟨n, l2, b2, hn, rfl, hA, hrn, hgn⟩
                  have rA := grown_row hgn HHR.out HGX.out
                  have gA := nil_grown HHG.out hgn
                  clear hgn HM HHR HHG
                  have HRN := Lib.hid hrn
                  clear hrn
                  have H6 := Lib.hid hA
                  have HG := Lib.hid gA
                  have H2 := Lib.hid rA
                  have b0 := rA.cell (show 0 < 4 by omega)
                  have b1' := rA.cell (show 1 < 4 by omega)
                  have b2' := rA.cell (show 2 < 4 by omega)
                  have b3 := rA.cell (show 3 < 4 by omega)
                  have z0 := rA.frozen 0
                  have z1 := rA.frozen 1
                  have z2 := rA.frozen 2
                  have z3 := rA.frozen 3
                  dsimp only [insF, i0] at b0 b1' b2' b3
                  clear hA gA rA
                  go_wp2_with fail
                  (try simp only [Exit.inBlock, Exit.then])
                  have hx1 := ins_set4 ⟨1, d, n, 0⟩ H2.out
                  have hx2 := H6.out.kept (row := some g2) (grown_set (grown_set (grown_set (grown_set (grown_refl _ _) (.inl rfl) (p := ⟨g2, 0, none⟩) (.int .u8 (1 : Nat))) (.inl rfl) (p := ⟨g2, 1, none⟩) (.int .i64 (d : Nat))) (.inl rfl) (p := ⟨g2, 2, none⟩) (.int .i64 (n : Nat))) (.inl rfl) (p := ⟨g2, 3, none⟩) (.int .i64 (0 : Nat))) (fun k e => by injection e with e; subst e; exact HGB.out)
                  have hx3 := grown_set (grown_set (grown_set (grown_set HG.out (.inr HG2.out) (p := ⟨g2, 0, none⟩) (.int .u8 (1 : Nat))) (.inr HG2.out) (p := ⟨g2, 1, none⟩) (.int .i64 (d : Nat))) (.inr HG2.out) (p := ⟨g2, 2, none⟩) (.int .i64 (n : Nat))) (.inr HG2.out) (p := ⟨g2, 3, none⟩) (.int .i64 (0 : Nat))
                  dsimp only at hx1 hx2 hx3 ⊢
                  generalize ((((World.setCell WA ⟨g2, 0, none⟩ (.int .u8 (1 : Nat))).setCell ⟨g2, 1, none⟩ (.int .i64 (d : Nat))).setCell ⟨g2, 2, none⟩ (.int .i64 (n : Nat))).setCell ⟨g2, 3, none⟩ (.int .i64 (0 : Nat))) = W99 at hx1 hx2 hx3 ⊢
                  refine bodyPost_ret (ins_results rfl _ _ g2 ⟨1, d, n, 0⟩ rfl hx1) rfl ?_
                  exact ⟨⟨1, d, n, 0⟩, l2, _, rfl, hx2, rel_onPlace HREL.out (.of (op_set HX4.out HK.out (fun e => HR1.out e.1)) (.map (g := fun s : Nat => (⟨1, d, s, 0⟩ : InsS)) HRN.out)), hx3⟩
end
end Go.Proofs.Ythmpagehmfillaa
