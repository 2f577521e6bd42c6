/-
 THE WALK OF the document's onPlace. Conditions: a parser.
-/
import Derived.Test.YtiadfmhodlbkiaaQ23
namespace Go.Proofs.Ytiadfmhodlbkiaa
open Go.RowKit
set_option linter.unusedSimpArgs false
set_option linter.unusedVariables false
section
variable {w w' W0 : World} {B gp gi : Nat} {l : List Tok} {b : Option Flt} {many : Nat}
set_option maxRecDepth 100000 in
set_option maxHeartbeats 40000000 in
theorem ronplace_any (h : RS B w gp l b many) : Calls Try.prog 94 #[.pointer (some ⟨gp, 0, none⟩)] w fun e w' => ∃ c l' b', e = .returned (.agg (insC c)) ∧ RS B w' gp l' b' many ∧ Rel onPlace l b c l' b' ∧ w.grownBy w' (some gp) := by
 have HW := Lib.hid (And.intro h.bw h.bp)
 have hb1 : Below w.heap.size w (w.alloc (.cells (insC i0) 70)) := (Below.refl _ _).alloc (Nat.le_refl _) _
 have hb2 : Below (w.alloc (.cells (insC i0) 70)).heap.size (w.alloc (.cells (insC i0) 70)) ((w.alloc (.cells (insC i0) 70)).alloc (.cells (insC i0) 70)) := (Below.refl _ _).alloc (Nat.le_refl _) _
 have h2 := (h.below hb1).below hb2
 have hr2 := ins_row (heap_alloc_new w (.cells (insC i0) 70))
 have hr3 := ins_row (heap_alloc_new (w.alloc (.cells (insC i0) 70)) (.cells (insC i0) 70))
 have e1 : (w.alloc (.cells (insC i0) 70)).heap.size = w.heap.size + 1 := World.size_alloc _ _
 have HGW := Lib.hid (zb hb1 (some gp))
 have H2 := Lib.hid h2
 have HR2W := Lib.hid hr2
 have HR3 := Lib.hid hr3
 have HB2 := Lib.hid hb2
 clear h h2 hb1 hb2 hr2 hr3
 rw [show insC i0 = #[.int .u8 0, .int .i64 0, .int .i64 0, .int .i64 0] from rfl] at *
 go_enter Try.func94, Try.ntmps94
 go_wp2_with fail
 have hp := H2.out
 have r3 := HR3.out
 have g1 := zb HB2.out (some gp)
 have HW1 : Hid ((w.alloc (.cells #[.int .u8 0, .int .i64 0, .int .i64 0, .int .i64 0] 70)).heap.size = w.heap.size + 1) := e1
 rw [show w.heap.size + 1 = (w.alloc (.cells #[.int .u8 0, .int .i64 0, .int .i64 0, .int .i64 0] 70)).heap.size from e1.symm]
 clear H2 HR3 HB2
 generalize (w.alloc (.cells #[.int .u8 0, .int .i64 0, .int .i64 0, .int .i64 0] 70)).alloc (.cells #[.int .u8 0, .int .i64 0, .int .i64 0, .int .i64 0] 70) = W2 at *
 have hg2 : w.heap.size < (w.alloc (.cells #[.int .u8 0, .int .i64 0, .int .i64 0, .int .i64 0] 70)).heap.size := by omega
 generalize w.alloc (.cells #[.int .u8 0, .int .i64 0, .int .i64 0, .int .i64 0] 70) = W1 at *
 have HN2 : Hid (w.heap.size ≠ gp) := by have := HW.out; unfold Hid; omega
 have HN3 : Hid (W1.heap.size ≠ gp) := by have := HW.out; unfold Hid; omega
 have HGB : Hid (B ≤ w.heap.size) := HW.out.1
 have HGB3 : Hid (B ≤ W1.heap.size) := by have := HW.out; unfold Hid; omega
 obtain ⟨g3, hg3⟩ : ∃ g3, g3 = W1.heap.size := ⟨_, rfl⟩
 obtain ⟨g2, hg2'⟩ : ∃ g2, g2 = w.heap.size := ⟨_, rfl⟩
 rw [← hg3] at r3 HN3 HGB3 ⊢
 rw [← hg2'] at HN2 HR2W HGB ⊢
 have HG3 : Hid (W1.heap.size ≤ g3) := Nat.le_of_eq hg3.symm
 have HG2 : Hid (w.heap.size ≤ g2) := Nat.le_of_eq hg2'.symm
 have R3 := Lib.hid r3
 have G1 := Lib.hid g1
 have HP := Lib.hid hp
 clear hg3 hg2' hg2 HW1 e1 r3 g1 hp
 have HM := Lib.hid (rtakeplace_any HP.out)
 go_wp2_with fail
 refine HM.out.mono ?_
 rintro e W4 ⟨d, l1, b1, hd6, rfl, hp, hrel, hgn⟩
 replace G1 := Lib.hid (zd G1.out hgn)
 replace R3 := Lib.hid (zc hgn R3.out HN3.out)
 clear HM HP hgn
 have HP := Lib.hid hp
 clear hp
 have HREL := Lib.hid hrel
 have HD6 := Lib.hid hd6
 clear hrel hd6
 obtain ⟨gt, ct, L, k, q1, -⟩ := HP.out.ex
 have f2 : W4.cell? ⟨gp, 2, none⟩ = some (.int .i64 (erO b1 : Nat)) := q1.cell (show 2 < 5 by omega)
 clear q1
 cases b1 with
 | some e0 =>
   have hx : (((erO (some e0) : Nat) : Int) != 0) = true := by have := HP.out.er e0 rfl; rw [bne_iff_ne]; show ((e0.1 : Nat) : Int) ≠ 0; omega
   have h2 := zc G1.out HR2W.out HN2.out
   have H2' := Lib.hid h2
   have HG := Lib.hid (zd HGW.out G1.out)
   have a0 := R3.out.cell (show 0 < 4 by omega)
   have a1 := R3.out.cell (show 1 < 4 by omega)
   have a2 := R3.out.cell (show 2 < 4 by omega)
   have a3 := R3.out.cell (show 3 < 4 by omega)
   have b0 := h2.cell (show 0 < 4 by omega)
   have b1' := h2.cell (show 1 < 4 by omega)
   have b2' := h2.cell (show 2 < 4 by omega)
   have b3 := h2.cell (show 3 < 4 by omega)
   have z0 := h2.frozen 0
   have z1 := h2.frozen 1
   have z2 := h2.frozen 2
   have z3 := h2.frozen 3
   dsimp only [insF, i0] at a0 a1 a2 a3 b0 b1' b2' b3
   clear h2
   go_wp2_with fail
   (try simp only [Exit.inBlock, Exit.then])
   have hx1 := ins_set4 ⟨0, 0, 0, 0⟩ H2'.out
   have hx2 := HP.out.kept (row := some g2) (za (za (za (za (zf W4 (some g2)) (.inl rfl) (p := ⟨g2, 0, none⟩) (.int .u8 (0 : Nat))) (.inl rfl) (p := ⟨g2, 1, none⟩) (.int .i64 (0 : Nat))) (.inl rfl) (p := ⟨g2, 2, none⟩) (.int .i64 (0 : Nat))) (.inl rfl) (p := ⟨g2, 3, none⟩) (.int .i64 (0 : Nat))) (fun k e => by injection e with e; subst e; exact HGB.out)
   have hx3 := za (za (za (za HG.out (.inr HG2.out) (p := ⟨g2, 0, none⟩) (.int .u8 (0 : Nat))) (.inr HG2.out) (p := ⟨g2, 1, none⟩) (.int .i64 (0 : Nat))) (.inr HG2.out) (p := ⟨g2, 2, none⟩) (.int .i64 (0 : Nat))) (.inr HG2.out) (p := ⟨g2, 3, none⟩) (.int .i64 (0 : Nat))
   dsimp only at hx1 hx2 hx3 ⊢
   generalize ((((W4.setCell ⟨g2, 0, none⟩ (.int .u8 (0 : Nat))).setCell ⟨g2, 1, none⟩ (.int .i64 (0 : Nat))).setCell ⟨g2, 2, none⟩ (.int .i64 (0 : Nat))).setCell ⟨g2, 3, none⟩ (.int .i64 (0 : Nat))) = W99 at hx1 hx2 hx3 ⊢
   refine bodyPost_ret (ins_results rfl _ _ g2 ⟨0, 0, 0, 0⟩ rfl hx1) rfl ?_
   exact ⟨⟨0, 0, 0, 0⟩, l1, _, rfl, hx2, rel_onPlace HREL.out rfl, hx3⟩
 | none =>
   have f2' : W4.cell? ⟨gp, 2, none⟩ = some (.int .i64 0) := f2
   clear f2
   have hbs : Below W4.heap.size W4 (W4.alloc (.cells #[.string ⟨#[43, 61]⟩, .string ⟨#[45, 61]⟩, .string ⟨#[42, 61]⟩, .string ⟨#[47, 61]⟩, .string ⟨#[37, 61]⟩, .string ⟨#[38, 61]⟩, .string ⟨#[38, 126, 61]⟩, .string ⟨#[124, 61]⟩, .string ⟨#[94, 61]⟩, .string ⟨#[60, 60, 61]⟩, .string ⟨#[62, 62, 61]⟩] 9)) := (Below.refl _ _).alloc (Nat.le_refl _) _
   have hsc : ∀ i (hi : i < opsS.length), (W4.alloc (.cells #[.string ⟨#[43, 61]⟩, .string ⟨#[45, 61]⟩, .string ⟨#[42, 61]⟩, .string ⟨#[47, 61]⟩, .string ⟨#[37, 61]⟩, .string ⟨#[38, 61]⟩, .string ⟨#[38, 126, 61]⟩, .string ⟨#[124, 61]⟩, .string ⟨#[94, 61]⟩, .string ⟨#[60, 60, 61]⟩, .string ⟨#[62, 62, 61]⟩] 9)).cell? ⟨W4.heap.size, i, none⟩ = some (.string (mkS opsS[i])) := fun i hi => by
    rw [cell_of_row _ _ _ _ _ _ (heap_alloc_new _ _)]
    match i, hi with
    | 0, _ => rfl
    | 1, _ => rfl
    | 2, _ => rfl
    | 3, _ => rfl
    | 4, _ => rfl
    | 5, _ => rfl
    | 6, _ => rfl
    | 7, _ => rfl
    | 8, _ => rfl
    | 9, _ => rfl
    | 10, _ => rfl
   have HSG := Lib.hid (rsign_any (HP.out.below hbs) W4.heap.size 11 opsS hsc opsS_sig 8 (by decide))
   have hb := hbs
   replace HP := Lib.hid (HP.out.below hb)
   replace G1 := Lib.hid (zd G1.out (zb hb (some gp)))
   replace R3 := Lib.hid (ze hb R3.out R3.out.lt)
   clear hb
   clear hbs hsc
   go_wp2_with fail
   refine HSG.out.mono ?_
   rintro e W5 ⟨rfl, hb⟩
   replace HP := Lib.hid (HP.out.below hb)
   replace G1 := Lib.hid (zd G1.out (zb hb (some gp)))
   replace R3 := Lib.hid (ze hb R3.out R3.out.lt)
   clear hb
   clear HSG f2'
   have hlt := look_tab (hd l1).s opsS 8 (by decide)
   rw [ops_tab] at hlt
   obtain ⟨z8, hz8⟩ : ∃ z8, z8 = sigO opsS 8 (hd l1).s := ⟨_, rfl⟩
   rw [← hz8] at hlt ⊢
   have HLT := Lib.hid hlt
   clear hlt hz8
   by_cases hpp : (hd l1).s = [43, 43]
   · have HK4 : Hid ((hd l1).k ≠ 4) := (HP.out.tl.hd_s (by rw [hpp]; decide)).1
     have HPP := Lib.hid hpp
     clear hpp
     have HI0 := ris_any HP.out ⟨#[43, 43]⟩ [43, 43] rfl (by decide) (by decide)
     rw [decide_eq_true HPP.out] at HI0
     have HI := Lib.hid HI0
     clear HI0
     go_wp2_with fail
     refine HI.out.mono ?_
     rintro e W6 ⟨rfl, hb⟩
     clear HI
     replace HP := Lib.hid (HP.out.below hb)
     replace G1 := Lib.hid (zd G1.out (zb hb (some gp)))
     replace R3 := Lib.hid (ze hb R3.out R3.out.lt)
     clear hb
     have y0 := R3.out.cell (show 0 < 4 by omega)
     have y1 := R3.out.cell (show 1 < 4 by omega)
     have y2 := R3.out.cell (show 2 < 4 by omega)
     have y3 := R3.out.cell (show 3 < 4 by omega)
     have x0 := R3.out.frozen 0
     have x1 := R3.out.frozen 1
     have x2 := R3.out.frozen 2
     have x3 := R3.out.frozen 3
     dsimp only [insF, i0] at y0 y1 y2 y3
     replace HP := Lib.hid ((((HP.out.off (p := ⟨g3, 0, none⟩) HGB3.out (.int .u8 3)).off (p := ⟨g3, 1, none⟩) HGB3.out (.int .i64 (d : Nat))).off (p := ⟨g3, 2, none⟩) HGB3.out (.int .i64 0)).off (p := ⟨g3, 3, none⟩) HGB3.out (.int .i64 0))
     replace G1 := Lib.hid (za (za (za (za G1.out (.inr HG3.out) (p := ⟨g3, 0, none⟩) (.int .u8 3)) (.inr HG3.out) (p := ⟨g3, 1, none⟩) (.int .i64 (d : Nat))) (.inr HG3.out) (p := ⟨g3, 2, none⟩) (.int .i64 0)) (.inr HG3.out) (p := ⟨g3, 3, none⟩) (.int .i64 0))
     replace R3 : Hid (((((W6.setCell ⟨g3, 0, none⟩ (.int .u8 3)).setCell ⟨g3, 1, none⟩ (.int .i64 (d : Nat))).setCell ⟨g3, 2, none⟩ (.int .i64 0)).setCell ⟨g3, 3, none⟩ (.int .i64 0)).rowIs g3 70 4 (insF ⟨3, d, 0, 0⟩)) := ins_set4 ⟨3, d, 0, 0⟩ R3.out
     have HI0 := ris_any HP.out ⟨#[45, 45]⟩ [45, 45] rfl (by decide) (by decide)
     rw [decide_eq_false (by rw [HPP.out]; decide)] at HI0
     have HI := Lib.hid HI0
     clear HI0
     go_wp2_with fail
     refine HI.out.mono ?_
     rintro e W7 ⟨rfl, hb⟩
     clear HI
     replace HP := Lib.hid (HP.out.below hb)
     replace G1 := Lib.hid (zd G1.out (zb hb (some gp)))
     replace R3 := Lib.hid (ze hb R3.out R3.out.lt)
     clear hb
     clear y0 y1 y2 y3 x0 x1 x2 x3
     have hst := rstep_any HP.out
     rw [if_neg HK4.out] at hst
     have HM := Lib.hid (hst)
     go_wp2_with fail
     refine HM.out.mono ?_
     rintro e W8 ⟨rfl, hp, hgn⟩
     replace G1 := Lib.hid (zd G1.out hgn)
     replace R3 := Lib.hid (zc hgn R3.out HN3.out)
     clear HM HP hgn
     have HP := Lib.hid hp
     clear hp
     clear hst
     have h2 := zc G1.out HR2W.out HN2.out
     have H2' := Lib.hid h2
     have HG := Lib.hid (zd HGW.out G1.out)
     have a0 := R3.out.cell (show 0 < 4 by omega)
     have a1 := R3.out.cell (show 1 < 4 by omega)
     have a2 := R3.out.cell (show 2 < 4 by omega)
     have a3 := R3.out.cell (show 3 < 4 by omega)
     have b0 := h2.cell (show 0 < 4 by omega)
     have b1' := h2.cell (show 1 < 4 by omega)
     have b2' := h2.cell (show 2 < 4 by omega)
     have b3 := h2.cell (show 3 < 4 by omega)
     have z0 := h2.frozen 0
     have z1 := h2.frozen 1
     have z2 := h2.frozen 2
     have z3 := h2.frozen 3
     dsimp only [insF, i0] at a0 a1 a2 a3 b0 b1' b2' b3
     clear h2
     go_wp2_with fail
     (try simp only [Exit.inBlock, Exit.then])
     have hx1 := ins_set4 ⟨3, d, 0, 0⟩ H2'.out
     have hx2 := HP.out.kept (row := some g2) (za (za (za (za (zf W8 (some g2)) (.inl rfl) (p := ⟨g2, 0, none⟩) (.int .u8 (3 : Nat))) (.inl rfl) (p := ⟨g2, 1, none⟩) (.int .i64 (d : Nat))) (.inl rfl) (p := ⟨g2, 2, none⟩) (.int .i64 (0 : Nat))) (.inl rfl) (p := ⟨g2, 3, none⟩) (.int .i64 (0 : Nat))) (fun k e => by injection e with e; subst e; exact HGB.out)
     have hx3 := za (za (za (za HG.out (.inr HG2.out) (p := ⟨g2, 0, none⟩) (.int .u8 (3 : Nat))) (.inr HG2.out) (p := ⟨g2, 1, none⟩) (.int .i64 (d : Nat))) (.inr HG2.out) (p := ⟨g2, 2, none⟩) (.int .i64 (0 : Nat))) (.inr HG2.out) (p := ⟨g2, 3, none⟩) (.int .i64 (0 : Nat))
     dsimp only at hx1 hx2 hx3 ⊢
     generalize ((((W8.setCell ⟨g2, 0, none⟩ (.int .u8 (3 : Nat))).setCell ⟨g2, 1, none⟩ (.int .i64 (d : Nat))).setCell ⟨g2, 2, none⟩ (.int .i64 (0 : Nat))).setCell ⟨g2, 3, none⟩ (.int .i64 (0 : Nat))) = W99 at hx1 hx2 hx3 ⊢
     refine bodyPost_ret (ins_results rfl _ _ g2 ⟨3, d, 0, 0⟩ rfl hx1) rfl ?_
     exact ⟨⟨3, d, 0, 0⟩, l1.tail, _, rfl, hx2, rel_onPlace HREL.out (.ok (op_inc HPP.out)), hx3⟩
   · by_cases hmm : (hd l1).s = [45, 45]
     · have HK4 : Hid ((hd l1).k ≠ 4) := (HP.out.tl.hd_s (by rw [hmm]; decide)).1
       have HPP := Lib.hid hmm
       clear hmm hpp
       have HI0 := ris_any HP.out ⟨#[43, 43]⟩ [43, 43] rfl (by decide) (by decide)
       rw [decide_eq_false (by rw [HPP.out]; decide)] at HI0
       have HI := Lib.hid HI0
       clear HI0
       go_wp2_with fail
       refine HI.out.mono ?_
       rintro e W6 ⟨rfl, hb⟩
       clear HI
       replace HP := Lib.hid (HP.out.below hb)
       replace G1 := Lib.hid (zd G1.out (zb hb (some gp)))
       replace R3 := Lib.hid (ze hb R3.out R3.out.lt)
       clear hb
       have HI0 := ris_any HP.out ⟨#[45, 45]⟩ [45, 45] rfl (by decide) (by decide)
       rw [decide_eq_true HPP.out] at HI0
       have HI := Lib.hid HI0
       clear HI0
       go_wp2_with fail
       refine HI.out.mono ?_
       rintro e W7 ⟨rfl, hb⟩
       clear HI
       replace HP := Lib.hid (HP.out.below hb)
       replace G1 := Lib.hid (zd G1.out (zb hb (some gp)))
       replace R3 := Lib.hid (ze hb R3.out R3.out.lt)
       clear hb
       have y0 := R3.out.cell (show 0 < 4 by omega)
       have y1 := R3.out.cell (show 1 < 4 by omega)
       have y2 := R3.out.cell (show 2 < 4 by omega)
       have y3 := R3.out.cell (show 3 < 4 by omega)
       have x0 := R3.out.frozen 0
       have x1 := R3.out.frozen 1
       have x2 := R3.out.frozen 2
       have x3 := R3.out.frozen 3
       dsimp only [insF, i0] at y0 y1 y2 y3
       replace HP := Lib.hid ((((HP.out.off (p := ⟨g3, 0, none⟩) HGB3.out (.int .u8 3)).off (p := ⟨g3, 1, none⟩) HGB3.out (.int .i64 (d : Nat))).off (p := ⟨g3, 2, none⟩) HGB3.out (.int .i64 0)).off (p := ⟨g3, 3, none⟩) HGB3.out (.int .i64 0))
       replace G1 := Lib.hid (za (za (za (za G1.out (.inr HG3.out) (p := ⟨g3, 0, none⟩) (.int .u8 3)) (.inr HG3.out) (p := ⟨g3, 1, none⟩) (.int .i64 (d : Nat))) (.inr HG3.out) (p := ⟨g3, 2, none⟩) (.int .i64 0)) (.inr HG3.out) (p := ⟨g3, 3, none⟩) (.int .i64 0))
       replace R3 : Hid (((((W7.setCell ⟨g3, 0, none⟩ (.int .u8 3)).setCell ⟨g3, 1, none⟩ (.int .i64 (d : Nat))).setCell ⟨g3, 2, none⟩ (.int .i64 0)).setCell ⟨g3, 3, none⟩ (.int .i64 0)).rowIs g3 70 4 (insF ⟨3, d, 0, 0⟩)) := ins_set4 ⟨3, d, 0, 0⟩ R3.out
       have HI0 := ris_any HP.out ⟨#[45, 45]⟩ [45, 45] rfl (by decide) (by decide)
       rw [decide_eq_true HPP.out] at HI0
       have HI := Lib.hid HI0
       clear HI0
       go_wp2_with fail
       refine HI.out.mono ?_
       rintro e W8 ⟨rfl, hb⟩
       clear HI
       replace HP := Lib.hid (HP.out.below hb)
       replace G1 := Lib.hid (zd G1.out (zb hb (some gp)))
       replace R3 := Lib.hid (ze hb R3.out R3.out.lt)
       clear hb
       clear y0 y1 y2 y3 x0 x1 x2 x3
       have y0 := R3.out.cell (show 0 < 4 by omega)
       have x0 := R3.out.frozen 0
       dsimp only [insF, i0] at y0
       have HP' := Lib.hid (HP.out.off (p := ⟨g3, 0, none⟩) HGB3.out (.int .u8 4))
       have G1' := Lib.hid (za G1.out (.inr HG3.out) (p := ⟨g3, 0, none⟩) (.int .u8 4))
       have R3' : Hid ((W8.setCell ⟨g3, 0, none⟩ (.int .u8 4)).rowIs g3 70 4 (insF ⟨4, d, 0, 0⟩)) := (R3.out.set 0 (.int .u8 4)).congr fun i hi => by
        match i, hi with
        | 0, _ => rfl
        | 1, _ => rfl
        | 2, _ => rfl
        | 3, _ => rfl
       clear HP G1 R3
       have HP := HP'
       have G1 := G1'
       have R3 := R3'
       clear HP' G1' R3'
       have hst := rstep_any HP.out
       rw [if_neg HK4.out] at hst
       have HM := Lib.hid (hst)
       go_wp2_with fail
       refine HM.out.mono ?_
       rintro e W9 ⟨rfl, hp, hgn⟩
       replace G1 := Lib.hid (zd G1.out hgn)
       replace R3 := Lib.hid (zc hgn R3.out HN3.out)
       clear HM HP hgn
       have HP := Lib.hid hp
       clear hp
       clear hst
       clear x0 y0
       have h2 := zc G1.out HR2W.out HN2.out
       have H2' := Lib.hid h2
       have HG := Lib.hid (zd HGW.out G1.out)
       have a0 := R3.out.cell (show 0 < 4 by omega)
       have a1 := R3.out.cell (show 1 < 4 by omega)
       have a2 := R3.out.cell (show 2 < 4 by omega)
       have a3 := R3.out.cell (show 3 < 4 by omega)
       have b0 := h2.cell (show 0 < 4 by omega)
       have b1' := h2.cell (show 1 < 4 by omega)
       have b2' := h2.cell (show 2 < 4 by omega)
       have b3 := h2.cell (show 3 < 4 by omega)
       have z0 := h2.frozen 0
       have z1 := h2.frozen 1
       have z2 := h2.frozen 2
       have z3 := h2.frozen 3
       dsimp only [insF, i0] at a0 a1 a2 a3 b0 b1' b2' b3
       clear h2
       go_wp2_with fail
       (try simp only [Exit.inBlock, Exit.then])
       have hx1 := ins_set4 ⟨4, d, 0, 0⟩ H2'.out
       have hx2 := HP.out.kept (row := some g2) (za (za (za (za (zf W9 (some g2)) (.inl rfl) (p := ⟨g2, 0, none⟩) (.int .u8 (4 : Nat))) (.inl rfl) (p := ⟨g2, 1, none⟩) (.int .i64 (d : Nat))) (.inl rfl) (p := ⟨g2, 2, none⟩) (.int .i64 (0 : Nat))) (.inl rfl) (p := ⟨g2, 3, none⟩) (.int .i64 (0 : Nat))) (fun k e => by injection e with e; subst e; exact HGB.out)
       have hx3 := za (za (za (za HG.out (.inr HG2.out) (p := ⟨g2, 0, none⟩) (.int .u8 (4 : Nat))) (.inr HG2.out) (p := ⟨g2, 1, none⟩) (.int .i64 (d : Nat))) (.inr HG2.out) (p := ⟨g2, 2, none⟩) (.int .i64 (0 : Nat))) (.inr HG2.out) (p := ⟨g2, 3, none⟩) (.int .i64 (0 : Nat))
       dsimp only at hx1 hx2 hx3 ⊢
       generalize ((((W9.setCell ⟨g2, 0, none⟩ (.int .u8 (4 : Nat))).setCell ⟨g2, 1, none⟩ (.int .i64 (d : Nat))).setCell ⟨g2, 2, none⟩ (.int .i64 (0 : Nat))).setCell ⟨g2, 3, none⟩ (.int .i64 (0 : Nat))) = W99 at hx1 hx2 hx3 ⊢
       refine bodyPost_ret (ins_results rfl _ _ g2 ⟨4, d, 0, 0⟩ rfl hx1) rfl ?_
       exact ⟨⟨4, d, 0, 0⟩, l1.tail, _, rfl, hx2, rel_onPlace HREL.out (.ok (op_dec HPP.out)), hx3⟩
     · have HPP := Lib.hid hpp
       have HMM := Lib.hid hmm
       clear hpp hmm
       have HI0 := ris_any HP.out ⟨#[43, 43]⟩ [43, 43] rfl (by decide) (by decide)
       rw [decide_eq_false HPP.out] at HI0
       have HI := Lib.hid HI0
       clear HI0
       go_wp2_with fail
       refine HI.out.mono ?_
       rintro e W6 ⟨rfl, hb⟩
       clear HI
       replace HP := Lib.hid (HP.out.below hb)
       replace G1 := Lib.hid (zd G1.out (zb hb (some gp)))
       replace R3 := Lib.hid (ze hb R3.out R3.out.lt)
       clear hb
       have HI0 := ris_any HP.out ⟨#[45, 45]⟩ [45, 45] rfl (by decide) (by decide)
       rw [decide_eq_false HMM.out] at HI0
       have HI := Lib.hid HI0
       clear HI0
       go_wp2_with fail
       refine HI.out.mono ?_
       rintro e W7 ⟨rfl, hb⟩
       clear HI
       replace HP := Lib.hid (HP.out.below hb)
       replace G1 := Lib.hid (zd G1.out (zb hb (some gp)))
       replace R3 := Lib.hid (ze hb R3.out R3.out.lt)
       clear hb
       by_cases heq : (hd l1).s = [61]
       · have HK4 : Hid ((hd l1).k ≠ 4) := (HP.out.tl.hd_s (by rw [heq]; decide)).1
         have HEQ := Lib.hid heq
         clear heq
         have HI0 := ris_any HP.out ⟨#[61]⟩ [61] rfl (by decide) (by decide)
         rw [decide_eq_true HEQ.out] at HI0
         have HI := Lib.hid HI0
         clear HI0
         go_wp2_with fail
         refine HI.out.mono ?_
         rintro e W8 ⟨rfl, hb⟩
         clear HI
         replace HP := Lib.hid (HP.out.below hb)
         replace G1 := Lib.hid (zd G1.out (zb hb (some gp)))
         replace R3 := Lib.hid (ze hb R3.out R3.out.lt)
         clear hb
         have hst := rstep_any HP.out
         rw [if_neg HK4.out] at hst
         have HM := Lib.hid (hst)
         go_wp2_with fail
         refine HM.out.mono ?_
         rintro e W9 ⟨rfl, hp, hgn⟩
         replace G1 := Lib.hid (zd G1.out hgn)
         replace R3 := Lib.hid (zc hgn R3.out HN3.out)
         clear HM HP hgn
         have HP := Lib.hid hp
         clear hp
         clear hst
         clear HK4
         have y1 := R3.out.cell (show 1 < 4 by omega)
         have x1 := R3.out.frozen 1
         dsimp only [insF, i0] at y1
         have HP' := Lib.hid (HP.out.off (p := ⟨g3, 1, none⟩) HGB3.out (.int .i64 (d : Nat)))
         have G1' := Lib.hid (za G1.out (.inr HG3.out) (p := ⟨g3, 1, none⟩) (.int .i64 (d : Nat)))
         have R3' : Hid ((W9.setCell ⟨g3, 1, none⟩ (.int .i64 (d : Nat))).rowIs g3 70 4 (insF ⟨0, d, 0, 0⟩)) := (R3.out.set 1 (.int .i64 (d : Nat))).congr fun i hi => by
          match i, hi with
          | 0, _ => rfl
          | 1, _ => rfl
          | 2, _ => rfl
          | 3, _ => rfl
         clear HP G1 R3
         have HP := HP'
         have G1 := G1'
         have R3 := R3'
         clear HP' G1' R3'
         have HN := Lib.hid (rnow_any HP.out)
         have hf0 := tok_f0
         go_wp2_with fail
         refine HN.out.mono ?_
         rintro e WA ⟨rfl, hb⟩
         clear HN x1 y1
         replace HP := Lib.hid (HP.out.below hb)
         replace G1 := Lib.hid (zd G1.out (zb hb (some gp)))
         replace R3 := Lib.hid (ze hb R3.out R3.out.lt)
         clear hb
         by_cases hk : (hd l1.tail).k = 2
         · have hkI : (((hd l1.tail).k : Int) == 2) = true := by rw [hk]; rfl
           have HK := Lib.hid hk
           clear hk
           have y0 := R3.out.cell (show 0 < 4 by omega)
           have x0 := R3.out.frozen 0
           dsimp only [insF, i0] at y0
           have HP' := Lib.hid (HP.out.off (p := ⟨g3, 0, none⟩) HGB3.out (.int .u8 2))
           have G1' := Lib.hid (za G1.out (.inr HG3.out) (p := ⟨g3, 0, none⟩) (.int .u8 2))
           have R3' : Hid ((WA.setCell ⟨g3, 0, none⟩ (.int .u8 2)).rowIs g3 70 4 (insF ⟨2, d, 0, 0⟩)) := (R3.out.set 0 (.int .u8 2)).congr fun i hi => by
            match i, hi with
            | 0, _ => rfl
            | 1, _ => rfl
            | 2, _ => rfl
            | 3, _ => rfl
           clear HP G1 R3
           have HP := HP'
           have G1 := G1'
           have R3 := R3'
           clear HP' G1' R3'
           have HM := Lib.hid (rnum_any HP.out 255 (by decide))
           go_wp2_with fail
           refine HM.out.mono ?_
           rintro e WB ⟨n, l2, b2, hn, rfl, hp, hrn, hgn⟩
           replace G1 := Lib.hid (zd G1.out hgn)
           replace R3 := Lib.hid (zc hgn R3.out HN3.out)
           clear HM HP hgn
           have HP := Lib.hid hp
           clear hp
           have HRN := Lib.hid hrn
           clear hrn hn x0 y0 hkI hf0
           have y3 := R3.out.cell (show 3 < 4 by omega)
           have x3 := R3.out.frozen 3
           dsimp only [insF, i0] at y3
           have HP' := Lib.hid (HP.out.off (p := ⟨g3, 3, none⟩) HGB3.out (.int .i64 (n : Nat)))
           have G1' := Lib.hid (za G1.out (.inr HG3.out) (p := ⟨g3, 3, none⟩) (.int .i64 (n : Nat)))
           have R3' : Hid ((WB.setCell ⟨g3, 3, none⟩ (.int .i64 (n : Nat))).rowIs g3 70 4 (insF ⟨2, d, 0, n⟩)) := (R3.out.set 3 (.int .i64 (n : Nat))).congr fun i hi => by
            match i, hi with
            | 0, _ => rfl
            | 1, _ => rfl
            | 2, _ => rfl
            | 3, _ => rfl
           clear HP G1 R3
           have HP := HP'
           have G1 := G1'
           have R3 := R3'
           clear HP' G1' R3'
           have h2 := zc G1.out HR2W.out HN2.out
           have H2' := Lib.hid h2
           have HG := Lib.hid (zd HGW.out G1.out)
           have a0 := R3.out.cell (show 0 < 4 by omega)
           have a1 := R3.out.cell (show 1 < 4 by omega)
           have a2 := R3.out.cell (show 2 < 4 by omega)
           have a3 := R3.out.cell (show 3 < 4 by omega)
           have b0 := h2.cell (show 0 < 4 by omega)
           have b1' := h2.cell (show 1 < 4 by omega)
           have b2' := h2.cell (show 2 < 4 by omega)
           have b3 := h2.cell (show 3 < 4 by omega)
           have z0 := h2.frozen 0
           have z1 := h2.frozen 1
           have z2 := h2.frozen 2
           have z3 := h2.frozen 3
           dsimp only [insF, i0] at a0 a1 a2 a3 b0 b1' b2' b3
           clear h2
           go_wp2_with fail
           (try simp only [Exit.inBlock, Exit.then])
           have hx1 := ins_set4 ⟨2, d, 0, n⟩ H2'.out
           have hx2 := HP.out.kept (row := some g2) (za (za (za (za (zf (WB.setCell ⟨g3, 3, none⟩ (.int .i64 (n : Nat))) (some g2)) (.inl rfl) (p := ⟨g2, 0, none⟩) (.int .u8 (2 : Nat))) (.inl rfl) (p := ⟨g2, 1, none⟩) (.int .i64 (d : Nat))) (.inl rfl) (p := ⟨g2, 2, none⟩) (.int .i64 (0 : Nat))) (.inl rfl) (p := ⟨g2, 3, none⟩) (.int .i64 (n : Nat))) (fun k e => by injection e with e; subst e; exact HGB.out)
           have hx3 := za (za (za (za HG.out (.inr HG2.out) (p := ⟨g2, 0, none⟩) (.int .u8 (2 : Nat))) (.inr HG2.out) (p := ⟨g2, 1, none⟩) (.int .i64 (d : Nat))) (.inr HG2.out) (p := ⟨g2, 2, none⟩) (.int .i64 (0 : Nat))) (.inr HG2.out) (p := ⟨g2, 3, none⟩) (.int .i64 (n : Nat))
           dsimp only at hx1 hx2 hx3 ⊢
           generalize (((((WB.setCell ⟨g3, 3, none⟩ (.int .i64 (n : Nat))).setCell ⟨g2, 0, none⟩ (.int .u8 (2 : Nat))).setCell ⟨g2, 1, none⟩ (.int .i64 (d : Nat))).setCell ⟨g2, 2, none⟩ (.int .i64 (0 : Nat))).setCell ⟨g2, 3, none⟩ (.int .i64 (n : Nat))) = W99 at hx1 hx2 hx3 ⊢
           refine bodyPost_ret (ins_results rfl _ _ g2 ⟨2, d, 0, n⟩ rfl hx1) rfl ?_
           exact ⟨⟨2, d, 0, n⟩, l2, _, rfl, hx2, rel_onPlace HREL.out (.of (op_num HEQ.out HK.out) (.map (g := fun n : Nat => (⟨2, d, 0, n⟩ : InsS)) HRN.out)), hx3⟩
         · have hkI : (((hd l1.tail).k : Int) == 2) = false := by rw [beq_eq_false_iff_ne]; omega
           have HK := Lib.hid hk
           clear hk
           by_cases hr : (hd l1.tail).s = [114]
           · have HRR := Lib.hid hr
             have HK4 : Hid ((hd l1.tail).k ≠ 4) := (HP.out.tl.hd_s (by rw [hr]; decide)).1
             clear hr
             by_cases hd3 : d ≤ 3
             · have hdI : (d : Int) ≤ 3 := by omega
               have HD3 := Lib.hid hd3
               clear hd3
               have HI0 := ris_any HP.out ⟨#[114]⟩ [114] rfl (by decide) (by decide)
               rw [decide_eq_true HRR.out] at HI0
               have HI := Lib.hid HI0
               clear HI0
               go_wp2_with fail
               refine HI.out.mono ?_
               rintro e WB ⟨rfl, hb⟩
               clear HI
               replace HP := Lib.hid (HP.out.below hb)
               replace G1 := Lib.hid (zd G1.out (zb hb (some gp)))
               replace R3 := Lib.hid (ze hb R3.out R3.out.lt)
               clear hb
               clear hkI hf0
               have y0 := R3.out.cell (show 0 < 4 by omega)
               have x0 := R3.out.frozen 0
               dsimp only [insF, i0] at y0
               have HP' := Lib.hid (HP.out.off (p := ⟨g3, 0, none⟩) HGB3.out (.int .u8 22))
               have G1' := Lib.hid (za G1.out (.inr HG3.out) (p := ⟨g3, 0, none⟩) (.int .u8 22))
               have R3' : Hid ((WB.setCell ⟨g3, 0, none⟩ (.int .u8 22)).rowIs g3 70 4 (insF ⟨22, d, 0, 0⟩)) := (R3.out.set 0 (.int .u8 22)).congr fun i hi => by
                match i, hi with
                | 0, _ => rfl
                | 1, _ => rfl
                | 2, _ => rfl
                | 3, _ => rfl
               clear HP G1 R3
               have HP := HP'
               have G1 := G1'
               have R3 := R3'
               clear HP' G1' R3'
               have hst := rstep_any HP.out
               rw [if_neg HK4.out] at hst
               have HM := Lib.hid (hst)
               go_wp2_with fail
               refine HM.out.mono ?_
               rintro e WC ⟨rfl, hp, hgn⟩
               replace G1 := Lib.hid (zd G1.out hgn)
               replace R3 := Lib.hid (zc hgn R3.out HN3.out)
               clear HM HP hgn
               have HP := Lib.hid hp
               clear hp
               clear hst
               clear x0 y0
               have HM := Lib.hid (rnum_any HP.out 255 (by decide))
               go_wp2_with fail
               refine HM.out.mono ?_
               rintro e WD ⟨n, l2, b2, hn, rfl, hp, hrn, hgn⟩
               replace G1 := Lib.hid (zd G1.out hgn)
               replace R3 := Lib.hid (zc hgn R3.out HN3.out)
               clear HM HP hgn
               have HP := Lib.hid hp
               clear hp
               have HRN := Lib.hid hrn
               clear hrn hn
               have y3 := R3.out.cell (show 3 < 4 by omega)
               have x3 := R3.out.frozen 3
               dsimp only [insF, i0] at y3
               have HP' := Lib.hid (HP.out.off (p := ⟨g3, 3, none⟩) HGB3.out (.int .i64 (n : Nat)))
               have G1' := Lib.hid (za G1.out (.inr HG3.out) (p := ⟨g3, 3, none⟩) (.int .i64 (n : Nat)))
               have R3' : Hid ((WD.setCell ⟨g3, 3, none⟩ (.int .i64 (n : Nat))).rowIs g3 70 4 (insF ⟨22, d, 0, n⟩)) := (R3.out.set 3 (.int .i64 (n : Nat))).congr fun i hi => by
                match i, hi with
                | 0, _ => rfl
                | 1, _ => rfl
                | 2, _ => rfl
                | 3, _ => rfl
               clear HP G1 R3
               have HP := HP'
               have G1 := G1'
               have R3 := R3'
               clear HP' G1' R3'
               have h2 := zc G1.out HR2W.out HN2.out
               have H2' := Lib.hid h2
               have HG := Lib.hid (zd HGW.out G1.out)
               have a0 := R3.out.cell (show 0 < 4 by omega)
               have a1 := R3.out.cell (show 1 < 4 by omega)
               have a2 := R3.out.cell (show 2 < 4 by omega)
               have a3 := R3.out.cell (show 3 < 4 by omega)
               have b0 := h2.cell (show 0 < 4 by omega)
               have b1' := h2.cell (show 1 < 4 by omega)
               have b2' := h2.cell (show 2 < 4 by omega)
               have b3 := h2.cell (show 3 < 4 by omega)
               have z0 := h2.frozen 0
               have z1 := h2.frozen 1
               have z2 := h2.frozen 2
               have z3 := h2.frozen 3
               dsimp only [insF, i0] at a0 a1 a2 a3 b0 b1' b2' b3
               clear h2
               go_wp2_with fail
               (try simp only [Exit.inBlock, Exit.then])
               have hx1 := ins_set4 ⟨22, d, 0, n⟩ H2'.out
               have hx2 := HP.out.kept (row := some g2) (za (za (za (za (zf (WD.setCell ⟨g3, 3, none⟩ (.int .i64 (n : Nat))) (some g2)) (.inl rfl) (p := ⟨g2, 0, none⟩) (.int .u8 (22 : Nat))) (.inl rfl) (p := ⟨g2, 1, none⟩) (.int .i64 (d : Nat))) (.inl rfl) (p := ⟨g2, 2, none⟩) (.int .i64 (0 : Nat))) (.inl rfl) (p := ⟨g2, 3, none⟩) (.int .i64 (n : Nat))) (fun k e => by injection e with e; subst e; exact HGB.out)
               have hx3 := za (za (za (za HG.out (.inr HG2.out) (p := ⟨g2, 0, none⟩) (.int .u8 (22 : Nat))) (.inr HG2.out) (p := ⟨g2, 1, none⟩) (.int .i64 (d : Nat))) (.inr HG2.out) (p := ⟨g2, 2, none⟩) (.int .i64 (0 : Nat))) (.inr HG2.out) (p := ⟨g2, 3, none⟩) (.int .i64 (n : Nat))
               dsimp only at hx1 hx2 hx3 ⊢
               generalize (((((WD.setCell ⟨g3, 3, none⟩ (.int .i64 (n : Nat))).setCell ⟨g2, 0, none⟩ (.int .u8 (22 : Nat))).setCell ⟨g2, 1, none⟩ (.int .i64 (d : Nat))).setCell ⟨g2, 2, none⟩ (.int .i64 (0 : Nat))).setCell ⟨g2, 3, none⟩ (.int .i64 (n : Nat))) = W99 at hx1 hx2 hx3 ⊢
               refine bodyPost_ret (ins_results rfl _ _ g2 ⟨22, d, 0, n⟩ rfl hx1) rfl ?_
               exact ⟨⟨22, d, 0, n⟩, l2, _, rfl, hx2, rel_onPlace HREL.out (.of (op_load HEQ.out HK.out HRR.out HD3.out) (.map (g := fun n : Nat => (⟨22, d, 0, n⟩ : InsS)) HRN.out)), hx3⟩
             · have hdI : ¬ (d : Int) ≤ 3 := by omega
               have HD3 := Lib.hid hd3
               clear hd3
               have HI0 := ris_any HP.out ⟨#[114]⟩ [114] rfl (by decide) (by decide)
               rw [decide_eq_true HRR.out] at HI0
               have HI := Lib.hid HI0
               clear HI0
               go_wp2_with fail
               refine HI.out.mono ?_
               rintro e WB ⟨rfl, hb⟩
               clear HI
               replace HP := Lib.hid (HP.out.below hb)
               replace G1 := Lib.hid (zd G1.out (zb hb (some gp)))
               replace R3 := Lib.hid (ze hb R3.out R3.out.lt)
               clear hb
               clear hkI hf0
               have y0 := R3.out.cell (show 0 < 4 by omega)
               have x0 := R3.out.frozen 0
               dsimp only [insF, i0] at y0
               have HP' := Lib.hid (HP.out.off (p := ⟨g3, 0, none⟩) HGB3.out (.int .u8 1))
               have G1' := Lib.hid (za G1.out (.inr HG3.out) (p := ⟨g3, 0, none⟩) (.int .u8 1))
               have R3' : Hid ((WB.setCell ⟨g3, 0, none⟩ (.int .u8 1)).rowIs g3 70 4 (insF ⟨1, d, 0, 0⟩)) := (R3.out.set 0 (.int .u8 1)).congr fun i hi => by
                match i, hi with
                | 0, _ => rfl
                | 1, _ => rfl
                | 2, _ => rfl
                | 3, _ => rfl
               clear HP G1 R3
               have HP := HP'
               have G1 := G1'
               have R3 := R3'
               clear HP' G1' R3'
               have HM := Lib.hid (rtakeplace_any HP.out)
               go_wp2_with fail
               refine HM.out.mono ?_
               rintro e WC ⟨n, l2, b2, hn, rfl, hp, hrn, hgn⟩
               replace G1 := Lib.hid (zd G1.out hgn)
               replace R3 := Lib.hid (zc hgn R3.out HN3.out)
               clear HM HP hgn
               have HP := Lib.hid hp
               clear hp
               have HRN := Lib.hid hrn
               clear hrn hn x0 y0
               have y2 := R3.out.cell (show 2 < 4 by omega)
               have x2 := R3.out.frozen 2
               dsimp only [insF, i0] at y2
               have HP' := Lib.hid (HP.out.off (p := ⟨g3, 2, none⟩) HGB3.out (.int .i64 (n : Nat)))
               have G1' := Lib.hid (za G1.out (.inr HG3.out) (p := ⟨g3, 2, none⟩) (.int .i64 (n : Nat)))
               have R3' : Hid ((WC.setCell ⟨g3, 2, none⟩ (.int .i64 (n : Nat))).rowIs g3 70 4 (insF ⟨1, d, n, 0⟩)) := (R3.out.set 2 (.int .i64 (n : Nat))).congr fun i hi => by
                match i, hi with
                | 0, _ => rfl
                | 1, _ => rfl
                | 2, _ => rfl
                | 3, _ => rfl
               clear HP G1 R3
               have HP := HP'
               have G1 := G1'
               have R3 := R3'
               clear HP' G1' R3'
               have h2 := zc G1.out HR2W.out HN2.out
               have H2' := Lib.hid h2
               have HG := Lib.hid (zd HGW.out G1.out)
               have a0 := R3.out.cell (show 0 < 4 by omega)
               have a1 := R3.out.cell (show 1 < 4 by omega)
               have a2 := R3.out.cell (show 2 < 4 by omega)
               have a3 := R3.out.cell (show 3 < 4 by omega)
               have b0 := h2.cell (show 0 < 4 by omega)
               have b1' := h2.cell (show 1 < 4 by omega)
               have b2' := h2.cell (show 2 < 4 by omega)
               have b3 := h2.cell (show 3 < 4 by omega)
               have z0 := h2.frozen 0
               have z1 := h2.frozen 1
               have z2 := h2.frozen 2
               have z3 := h2.frozen 3
               dsimp only [insF, i0] at a0 a1 a2 a3 b0 b1' b2' b3
               clear h2
               go_wp2_with fail
               (try simp only [Exit.inBlock, Exit.then])
               have hx1 := ins_set4 ⟨1, d, n, 0⟩ H2'.out
               have hx2 := HP.out.kept (row := some g2) (za (za (za (za (zf (WC.setCell ⟨g3, 2, none⟩ (.int .i64 (n : Nat))) (some g2)) (.inl rfl) (p := ⟨g2, 0, none⟩) (.int .u8 (1 : Nat))) (.inl rfl) (p := ⟨g2, 1, none⟩) (.int .i64 (d : Nat))) (.inl rfl) (p := ⟨g2, 2, none⟩) (.int .i64 (n : Nat))) (.inl rfl) (p := ⟨g2, 3, none⟩) (.int .i64 (0 : Nat))) (fun k e => by injection e with e; subst e; exact HGB.out)
               have hx3 := za (za (za (za HG.out (.inr HG2.out) (p := ⟨g2, 0, none⟩) (.int .u8 (1 : Nat))) (.inr HG2.out) (p := ⟨g2, 1, none⟩) (.int .i64 (d : Nat))) (.inr HG2.out) (p := ⟨g2, 2, none⟩) (.int .i64 (n : Nat))) (.inr HG2.out) (p := ⟨g2, 3, none⟩) (.int .i64 (0 : Nat))
               dsimp only at hx1 hx2 hx3 ⊢
               generalize (((((WC.setCell ⟨g3, 2, none⟩ (.int .i64 (n : Nat))).setCell ⟨g2, 0, none⟩ (.int .u8 (1 : Nat))).setCell ⟨g2, 1, none⟩ (.int .i64 (d : Nat))).setCell ⟨g2, 2, none⟩ (.int .i64 (n : Nat))).setCell ⟨g2, 3, none⟩ (.int .i64 (0 : Nat))) = W99 at hx1 hx2 hx3 ⊢
               refine bodyPost_ret (ins_results rfl _ _ g2 ⟨1, d, n, 0⟩ rfl hx1) rfl ?_
               exact ⟨⟨1, d, n, 0⟩, l2, _, rfl, hx2, rel_onPlace HREL.out (.of (op_set HEQ.out HK.out (fun e => HD3.out e.2)) (.map (g := fun s : Nat => (⟨1, d, s, 0⟩ : InsS)) HRN.out)), hx3⟩
           · have HRR := Lib.hid hr
             clear hr
             have HI0 := ris_any HP.out ⟨#[114]⟩ [114] rfl (by decide) (by decide)
             rw [decide_eq_false HRR.out] at HI0
             have HI := Lib.hid HI0
             clear HI0
             go_wp2_with fail
             refine HI.out.mono ?_
             rintro e WB ⟨rfl, hb⟩
             clear HI
             replace HP := Lib.hid (HP.out.below hb)
             replace G1 := Lib.hid (zd G1.out (zb hb (some gp)))
             replace R3 := Lib.hid (ze hb R3.out R3.out.lt)
             clear hb
             clear hkI hf0
             have y0 := R3.out.cell (show 0 < 4 by omega)
             have x0 := R3.out.frozen 0
             dsimp only [insF, i0] at y0
             have HP' := Lib.hid (HP.out.off (p := ⟨g3, 0, none⟩) HGB3.out (.int .u8 1))
             have G1' := Lib.hid (za G1.out (.inr HG3.out) (p := ⟨g3, 0, none⟩) (.int .u8 1))
             have R3' : Hid ((WB.setCell ⟨g3, 0, none⟩ (.int .u8 1)).rowIs g3 70 4 (insF ⟨1, d, 0, 0⟩)) := (R3.out.set 0 (.int .u8 1)).congr fun i hi => by
              match i, hi with
              | 0, _ => rfl
              | 1, _ => rfl
              | 2, _ => rfl
              | 3, _ => rfl
             clear HP G1 R3
             have HP := HP'
             have G1 := G1'
             have R3 := R3'
             clear HP' G1' R3'
             have HM := Lib.hid (rtakeplace_any HP.out)
             go_wp2_with fail
             refine HM.out.mono ?_
             rintro e WC ⟨n, l2, b2, hn, rfl, hp, hrn, hgn⟩
             replace G1 := Lib.hid (zd G1.out hgn)
             replace R3 := Lib.hid (zc hgn R3.out HN3.out)
             clear HM HP hgn
             have HP := Lib.hid hp
             clear hp
             have HRN := Lib.hid hrn
             clear hrn hn x0 y0
             have y2 := R3.out.cell (show 2 < 4 by omega)
             have x2 := R3.out.frozen 2
             dsimp only [insF, i0] at y2
             have HP' := Lib.hid (HP.out.off (p := ⟨g3, 2, none⟩) HGB3.out (.int .i64 (n : Nat)))
             have G1' := Lib.hid (za G1.out (.inr HG3.out) (p := ⟨g3, 2, none⟩) (.int .i64 (n : Nat)))
             have R3' : Hid ((WC.setCell ⟨g3, 2, none⟩ (.int .i64 (n : Nat))).rowIs g3 70 4 (insF ⟨1, d, n, 0⟩)) := (R3.out.set 2 (.int .i64 (n : Nat))).congr fun i hi => by
              match i, hi with
              | 0, _ => rfl
              | 1, _ => rfl
              | 2, _ => rfl
              | 3, _ => rfl
             clear HP G1 R3
             have HP := HP'
             have G1 := G1'
             have R3 := R3'
             clear HP' G1' R3'
             have h2 := zc G1.out HR2W.out HN2.out
             have H2' := Lib.hid h2
             have HG := Lib.hid (zd HGW.out G1.out)
             have a0 := R3.out.cell (show 0 < 4 by omega)
             have a1 := R3.out.cell (show 1 < 4 by omega)
             have a2 := R3.out.cell (show 2 < 4 by omega)
             have a3 := R3.out.cell (show 3 < 4 by omega)
             have b0 := h2.cell (show 0 < 4 by omega)
             have b1' := h2.cell (show 1 < 4 by omega)
             have b2' := h2.cell (show 2 < 4 by omega)
             have b3 := h2.cell (show 3 < 4 by omega)
             have z0 := h2.frozen 0
             have z1 := h2.frozen 1
             have z2 := h2.frozen 2
             have z3 := h2.frozen 3
             dsimp only [insF, i0] at a0 a1 a2 a3 b0 b1' b2' b3
             clear h2
             go_wp2_with fail
             (try simp only [Exit.inBlock, Exit.then])
             have hx1 := ins_set4 ⟨1, d, n, 0⟩ H2'.out
             have hx2 := HP.out.kept (row := some g2) (za (za (za (za (zf (WC.setCell ⟨g3, 2, none⟩ (.int .i64 (n : Nat))) (some g2)) (.inl rfl) (p := ⟨g2, 0, none⟩) (.int .u8 (1 : Nat))) (.inl rfl) (p := ⟨g2, 1, none⟩) (.int .i64 (d : Nat))) (.inl rfl) (p := ⟨g2, 2, none⟩) (.int .i64 (n : Nat))) (.inl rfl) (p := ⟨g2, 3, none⟩) (.int .i64 (0 : Nat))) (fun k e => by injection e with e; subst e; exact HGB.out)
             have hx3 := za (za (za (za HG.out (.inr HG2.out) (p := ⟨g2, 0, none⟩) (.int .u8 (1 : Nat))) (.inr HG2.out) (p := ⟨g2, 1, none⟩) (.int .i64 (d : Nat))) (.inr HG2.out) (p := ⟨g2, 2, none⟩) (.int .i64 (n : Nat))) (.inr HG2.out) (p := ⟨g2, 3, none⟩) (.int .i64 (0 : Nat))
             dsimp only at hx1 hx2 hx3 ⊢
             generalize (((((WC.setCell ⟨g3, 2, none⟩ (.int .i64 (n : Nat))).setCell ⟨g2, 0, none⟩ (.int .u8 (1 : Nat))).setCell ⟨g2, 1, none⟩ (.int .i64 (d : Nat))).setCell ⟨g2, 2, none⟩ (.int .i64 (n : Nat))).setCell ⟨g2, 3, none⟩ (.int .i64 (0 : Nat))) = W99 at hx1 hx2 hx3 ⊢
             refine bodyPost_ret (ins_results rfl _ _ g2 ⟨1, d, n, 0⟩ rfl hx1) rfl ?_
             exact ⟨⟨1, d, n, 0⟩, l2, _, rfl, hx2, rel_onPlace HREL.out (.of (op_set HEQ.out HK.out (fun e => HRR.out e.1)) (.map (g := fun s : Nat => (⟨1, d, s, 0⟩ : InsS)) HRN.out)), hx3⟩
       · have HEQ := Lib.hid heq
         clear heq
         have HI0 := ris_any HP.out ⟨#[61]⟩ [61] rfl (by decide) (by decide)
         rw [decide_eq_false HEQ.out] at HI0
         have HI := Lib.hid HI0
         clear HI0
         go_wp2_with fail
         refine HI.out.mono ?_
         rintro e W8 ⟨rfl, hb⟩
         clear HI
         replace HP := Lib.hid (HP.out.below hb)
         replace G1 := Lib.hid (zd G1.out (zb hb (some gp)))
         replace R3 := Lib.hid (ze hb R3.out R3.out.lt)
         clear hb
         cases hlk : look opsL (hd l1).s with
         | none =>
           have hz : z8 = 0 := by have := HLT.out.1; rw [hlk] at this; exact this
           subst hz
           have HLK := Lib.hid hlk
           clear hlk
           have HM := Lib.hid (rfail_any HP.out 121 (by decide))
           go_wp2_with fail
           refine HM.out.mono ?_
           rintro e W9 ⟨rfl, hp, hgn⟩
           replace G1 := Lib.hid (zd G1.out hgn)
           replace R3 := Lib.hid (zc hgn R3.out HN3.out)
           clear HM HP hgn
           have HP := Lib.hid hp
           clear hp
           have h2 := zc G1.out HR2W.out HN2.out
           have H2' := Lib.hid h2
           have HG := Lib.hid (zd HGW.out G1.out)
           have a0 := R3.out.cell (show 0 < 4 by omega)
           have a1 := R3.out.cell (show 1 < 4 by omega)
           have a2 := R3.out.cell (show 2 < 4 by omega)
           have a3 := R3.out.cell (show 3 < 4 by omega)
           have b0 := h2.cell (show 0 < 4 by omega)
           have b1' := h2.cell (show 1 < 4 by omega)
           have b2' := h2.cell (show 2 < 4 by omega)
           have b3 := h2.cell (show 3 < 4 by omega)
           have z0 := h2.frozen 0
           have z1 := h2.frozen 1
           have z2 := h2.frozen 2
           have z3 := h2.frozen 3
           dsimp only [insF, i0] at a0 a1 a2 a3 b0 b1' b2' b3
           clear h2
           go_wp2_with fail
           (try simp only [Exit.inBlock, Exit.then])
           have hx1 := ins_set4 ⟨0, 0, 0, 0⟩ H2'.out
           have hx2 := HP.out.kept (row := some g2) (za (za (za (za (zf W9 (some g2)) (.inl rfl) (p := ⟨g2, 0, none⟩) (.int .u8 (0 : Nat))) (.inl rfl) (p := ⟨g2, 1, none⟩) (.int .i64 (0 : Nat))) (.inl rfl) (p := ⟨g2, 2, none⟩) (.int .i64 (0 : Nat))) (.inl rfl) (p := ⟨g2, 3, none⟩) (.int .i64 (0 : Nat))) (fun k e => by injection e with e; subst e; exact HGB.out)
           have hx3 := za (za (za (za HG.out (.inr HG2.out) (p := ⟨g2, 0, none⟩) (.int .u8 (0 : Nat))) (.inr HG2.out) (p := ⟨g2, 1, none⟩) (.int .i64 (0 : Nat))) (.inr HG2.out) (p := ⟨g2, 2, none⟩) (.int .i64 (0 : Nat))) (.inr HG2.out) (p := ⟨g2, 3, none⟩) (.int .i64 (0 : Nat))
           dsimp only at hx1 hx2 hx3 ⊢
           generalize ((((W9.setCell ⟨g2, 0, none⟩ (.int .u8 (0 : Nat))).setCell ⟨g2, 1, none⟩ (.int .i64 (0 : Nat))).setCell ⟨g2, 2, none⟩ (.int .i64 (0 : Nat))).setCell ⟨g2, 3, none⟩ (.int .i64 (0 : Nat))) = W99 at hx1 hx2 hx3 ⊢
           refine bodyPost_ret (ins_results rfl _ _ g2 ⟨0, 0, 0, 0⟩ rfl hx1) rfl ?_
           exact ⟨⟨0, 0, 0, 0⟩, l1, _, rfl, hx2, rel_onPlace HREL.out (.err (op_err HPP.out HMM.out (fun e => by have := e.1; rw [HLK.out] at this; cases this) HEQ.out)), hx3⟩
         | some op =>
           have hz : z8 = op := by have := HLT.out.1; rw [hlk] at this; exact this
           have hop0 : op ≠ 0 := fun e => HLT.out.2 (by rw [hlk, e])
           subst hz
           have hzI : ((z8 : Int) != 0) = true := by rw [bne_iff_ne]; omega
           have HLK := Lib.hid hlk
           have HK4 : Hid ((hd l1).k ≠ 4) := (HP.out.tl.hd_s (opsL_ne hlk).1).1
           clear hlk hop0
           by_cases hd0 : d = 0
           · have HD0 := Lib.hid hd0
             have hdI : ((d : Int) == 0) = true := by rw [beq_iff_eq]; omega
             clear hd0
             have HO0 := HP
             have y0 := R3.out.cell (show 0 < 4 by omega)
             have x0 := R3.out.frozen 0
             dsimp only [insF, i0] at y0
             have HP' := Lib.hid (HP.out.off (p := ⟨g3, 0, none⟩) HGB3.out (.int .u8 (z8 : Nat)))
             have G1' := Lib.hid (za G1.out (.inr HG3.out) (p := ⟨g3, 0, none⟩) (.int .u8 (z8 : Nat)))
             have R3' : Hid ((W8.setCell ⟨g3, 0, none⟩ (.int .u8 (z8 : Nat))).rowIs g3 70 4 (insF ⟨z8, 0, 0, 0⟩)) := (R3.out.set 0 (.int .u8 (z8 : Nat))).congr fun i hi => by
              match i, hi with
              | 0, _ => rfl
              | 1, _ => rfl
              | 2, _ => rfl
              | 3, _ => rfl
             clear HP G1 R3
             have HP := HP'
             have G1 := G1'
             have R3 := R3'
             clear HP' G1' R3'
             have hst := rstep_any HP.out
             rw [if_neg HK4.out] at hst
             have HM := Lib.hid (hst)
             go_wp2_with fail
             refine HM.out.mono ?_
             rintro e W9 ⟨rfl, hp, hgn⟩
             replace G1 := Lib.hid (zd G1.out hgn)
             replace R3 := Lib.hid (zc hgn R3.out HN3.out)
             clear HM HP hgn
             have HP := Lib.hid hp
             clear hp
             clear hst
             clear x0 y0
             have HO := Lib.hid (roperand_any HP.out G1.out HG3.out HGB3.out R3.out (o := 0) (by omega) rfl)
             clear HP G1
             go_wp2_with fail
             refine HO.out.mono ?_
             rintro e WA ⟨rfl, sv, nv, l', b', hs7, hn7, hp, h3', hrel, hg1⟩
             have R3' : Hid (WA.rowIs g3 70 4 (insF ⟨z8, 0, sv, nv⟩)) := h3'.congr fun i hi => by
              match i, hi with
              | 0, _ => rfl
              | 1, _ => rfl
              | 2, _ => rfl
              | 3, _ => rfl
             have HREL9 := Lib.hid hrel
             have HP := Lib.hid hp
             have G1 := Lib.hid hg1
             clear R3 h3' hrel hp hg1 HO HO0 hs7 hn7 hzI hdI
             have R3 := R3'
             clear R3'
             have h2 := zc G1.out HR2W.out HN2.out
             have H2' := Lib.hid h2
             have HG := Lib.hid (zd HGW.out G1.out)
             have a0 := R3.out.cell (show 0 < 4 by omega)
             have a1 := R3.out.cell (show 1 < 4 by omega)
             have a2 := R3.out.cell (show 2 < 4 by omega)
             have a3 := R3.out.cell (show 3 < 4 by omega)
             have b0 := h2.cell (show 0 < 4 by omega)
             have b1' := h2.cell (show 1 < 4 by omega)
             have b2' := h2.cell (show 2 < 4 by omega)
             have b3 := h2.cell (show 3 < 4 by omega)
             have z0 := h2.frozen 0
             have z1 := h2.frozen 1
             have z2 := h2.frozen 2
             have z3 := h2.frozen 3
             dsimp only [insF, i0] at a0 a1 a2 a3 b0 b1' b2' b3
             clear h2
             go_wp2_with fail
             (try simp only [Exit.inBlock, Exit.then])
             have hx1 := ins_set4 ⟨z8, 0, sv, nv⟩ H2'.out
             have hx2 := HP.out.kept (row := some g2) (za (za (za (za (zf WA (some g2)) (.inl rfl) (p := ⟨g2, 0, none⟩) (.int .u8 (z8 : Nat))) (.inl rfl) (p := ⟨g2, 1, none⟩) (.int .i64 (0 : Nat))) (.inl rfl) (p := ⟨g2, 2, none⟩) (.int .i64 (sv : Nat))) (.inl rfl) (p := ⟨g2, 3, none⟩) (.int .i64 (nv : Nat))) (fun k e => by injection e with e; subst e; exact HGB.out)
             have hx3 := za (za (za (za HG.out (.inr HG2.out) (p := ⟨g2, 0, none⟩) (.int .u8 (z8 : Nat))) (.inr HG2.out) (p := ⟨g2, 1, none⟩) (.int .i64 (0 : Nat))) (.inr HG2.out) (p := ⟨g2, 2, none⟩) (.int .i64 (sv : Nat))) (.inr HG2.out) (p := ⟨g2, 3, none⟩) (.int .i64 (nv : Nat))
             dsimp only at hx1 hx2 hx3 ⊢
             generalize ((((WA.setCell ⟨g2, 0, none⟩ (.int .u8 (z8 : Nat))).setCell ⟨g2, 1, none⟩ (.int .i64 (0 : Nat))).setCell ⟨g2, 2, none⟩ (.int .i64 (sv : Nat))).setCell ⟨g2, 3, none⟩ (.int .i64 (nv : Nat))) = W99 at hx1 hx2 hx3 ⊢
             refine bodyPost_ret (ins_results rfl _ _ g2 ⟨z8, 0, sv, nv⟩ rfl hx1) rfl ?_
             exact ⟨⟨z8, 0, sv, nv⟩, l', _, rfl, hx2, rel_onPlace HREL.out (.of (op_op HLK.out HD0.out) (.map (g := fun x : Nat × Nat => (⟨z8, 0, x.1, x.2⟩ : InsS)) HREL9.out)), hx3⟩
           · have HD0 := Lib.hid hd0
             have hdI : ((d : Int) == 0) = false := by rw [beq_eq_false_iff_ne]; omega
             clear hd0
             have HM := Lib.hid (rfail_any HP.out 121 (by decide))
             go_wp2_with fail
             refine HM.out.mono ?_
             rintro e W9 ⟨rfl, hp, hgn⟩
             replace G1 := Lib.hid (zd G1.out hgn)
             replace R3 := Lib.hid (zc hgn R3.out HN3.out)
             clear HM HP hgn
             have HP := Lib.hid hp
             clear hp
             have h2 := zc G1.out HR2W.out HN2.out
             have H2' := Lib.hid h2
             have HG := Lib.hid (zd HGW.out G1.out)
             have a0 := R3.out.cell (show 0 < 4 by omega)
             have a1 := R3.out.cell (show 1 < 4 by omega)
             have a2 := R3.out.cell (show 2 < 4 by omega)
             have a3 := R3.out.cell (show 3 < 4 by omega)
             have b0 := h2.cell (show 0 < 4 by omega)
             have b1' := h2.cell (show 1 < 4 by omega)
             have b2' := h2.cell (show 2 < 4 by omega)
             have b3 := h2.cell (show 3 < 4 by omega)
             have z0 := h2.frozen 0
             have z1 := h2.frozen 1
             have z2 := h2.frozen 2
             have z3 := h2.frozen 3
             dsimp only [insF, i0] at a0 a1 a2 a3 b0 b1' b2' b3
             clear h2
             go_wp2_with fail
             (try simp only [Exit.inBlock, Exit.then])
             have hx1 := ins_set4 ⟨0, 0, 0, 0⟩ H2'.out
             have hx2 := HP.out.kept (row := some g2) (za (za (za (za (zf W9 (some g2)) (.inl rfl) (p := ⟨g2, 0, none⟩) (.int .u8 (0 : Nat))) (.inl rfl) (p := ⟨g2, 1, none⟩) (.int .i64 (0 : Nat))) (.inl rfl) (p := ⟨g2, 2, none⟩) (.int .i64 (0 : Nat))) (.inl rfl) (p := ⟨g2, 3, none⟩) (.int .i64 (0 : Nat))) (fun k e => by injection e with e; subst e; exact HGB.out)
             have hx3 := za (za (za (za HG.out (.inr HG2.out) (p := ⟨g2, 0, none⟩) (.int .u8 (0 : Nat))) (.inr HG2.out) (p := ⟨g2, 1, none⟩) (.int .i64 (0 : Nat))) (.inr HG2.out) (p := ⟨g2, 2, none⟩) (.int .i64 (0 : Nat))) (.inr HG2.out) (p := ⟨g2, 3, none⟩) (.int .i64 (0 : Nat))
             dsimp only at hx1 hx2 hx3 ⊢
             generalize ((((W9.setCell ⟨g2, 0, none⟩ (.int .u8 (0 : Nat))).setCell ⟨g2, 1, none⟩ (.int .i64 (0 : Nat))).setCell ⟨g2, 2, none⟩ (.int .i64 (0 : Nat))).setCell ⟨g2, 3, none⟩ (.int .i64 (0 : Nat))) = W99 at hx1 hx2 hx3 ⊢
             refine bodyPost_ret (ins_results rfl _ _ g2 ⟨0, 0, 0, 0⟩ rfl hx1) rfl ?_
             exact ⟨⟨0, 0, 0, 0⟩, l1, _, rfl, hx2, rel_onPlace HREL.out (.err (op_err HPP.out HMM.out (fun e => HD0.out e.2) HEQ.out)), hx3⟩
end
end Go.Proofs.Ytiadfmhodlbkiaa
