/-
 THE WALK OF the document's cond. Conditions: a parser.
-/
import Derived.Test.YtiadfmhodlbkiaaQ22
namespace Go.Proofs.Ytiadfmhodlbkiaa
open Go.RowKit
set_option linter.unusedSimpArgs false
set_option linter.unusedVariables false
section
variable {w w' W0 : World} {B gp gi : Nat} {l : List Tok} {b : Option Flt} {many : Nat}
theorem cond_bad {r : Bool} {l1 l2 : List Tok} {x : ConS} {e : Flt} (hr : r = (b.isNone && decide ((hd l).s = [110, 111, 116]))) (h1 : l1 = if r = true then l.tail else l) (hm : Rel (must [97]) l1 b () l2 (some e)) : Rel cond l b x l2 (some e) := by
 unfold Rel at hm ⊢
 unfold cond
 cases b with
 | some e' => exact hm
 | none =>
   simp only [Option.isNone_none, Bool.true_and] at hr
   simp only at hm ⊢
   rw [← hr, ← h1]
   cases hq : must [97] l1 with
   | error e' => rw [hq] at hm; exact hm
   | ok y => rw [hq] at hm; cases hm.1
theorem con_setN {w : World} {g : Nat} {t : TypeId} {c : ConS} (h : w.rowIs g t 5 (conF c)) (r : Bool) : (w.setCell ⟨g, 0, none⟩ (.bool r)).rowIs g t 5 (conF ⟨r, c.i⟩) :=
 (h.set 0 _).congr fun i hi => by
   match i, hi with
   | 0, _ => rfl
   | 1, _ => rfl
   | 2, _ => rfl
   | 3, _ => rfl
   | 4, _ => rfl
set_option maxRecDepth 100000 in
set_option maxHeartbeats 16000000 in
theorem rcond_any (h : RS B w gp l b many) : Calls Try.prog 93 #[.pointer (some ⟨gp, 0, none⟩)] w fun e w' => ∃ c l' b', e = .returned (.agg (conC c)) ∧ RS B w' gp l' b' many ∧ Rel cond l b c l' b' ∧ w.grownBy w' (some gp) := by
 have HW := Lib.hid (And.intro h.bw h.bp)
 have hb1 : Below w.heap.size w (w.alloc (.cells (conC c0) 73)) := (Below.refl _ _).alloc (Nat.le_refl _) _
 have hb2 : Below (w.alloc (.cells (conC c0) 73)).heap.size (w.alloc (.cells (conC c0) 73)) ((w.alloc (.cells (conC c0) 73)).alloc (.cells (conC c0) 73)) := (Below.refl _ _).alloc (Nat.le_refl _) _
 have h2 := (h.below hb1).below hb2
 obtain ⟨gt, ct, L, k, q1, -⟩ := h2.ex
 have f2 : ((w.alloc (.cells (conC c0) 73)).alloc (.cells (conC c0) 73)).cell? ⟨gp, 2, none⟩ = some (.int .i64 (erO b : Nat)) := q1.cell (show 2 < 5 by omega)
 have hr2 := con_row (heap_alloc_new w (.cells (conC c0) 73))
 have hr3 := con_row (heap_alloc_new (w.alloc (.cells (conC c0) 73)) (.cells (conC c0) 73))
 have e1 : (w.alloc (.cells (conC c0) 73)).heap.size = w.heap.size + 1 := World.size_alloc _ _
 have HGW := Lib.hid (zb hb1 (some gp))
 have H2 := Lib.hid h2
 have HR2W := Lib.hid hr2
 have HR3 := Lib.hid hr3
 have HB2 := Lib.hid hb2
 clear h h2 hb1 hb2 q1 hr2 hr3
 rw [show conC c0 = #[.bool false, .int .u8 0, .int .i64 0, .int .i64 0, .int .i64 0] from rfl] at *
 obtain ⟨r, hr⟩ : ∃ r, r = (b.isNone && decide ((hd l).s = [110, 111, 116])) := ⟨_, rfl⟩
 have HR := Lib.hid hr
 obtain ⟨l1, hl1⟩ : ∃ l1, l1 = if r = true then l.tail else l := ⟨_, rfl⟩
 have HL1 := Lib.hid hl1
 cases b with
 | some e0 =>
   have hxb : (((erO (some e0) : Nat) : Int) == 0) = false := by have := H2.out.er e0 rfl; rw [beq_eq_false_iff_ne]; show ((e0.1 : Nat) : Int) ≠ 0; omega
   simp only [Option.isNone_some, Bool.false_and] at hr
   subst hr
   rw [if_neg (by decide)] at hl1
   subst hl1
   go_enter Try.func93, Try.ntmps93
   go_wp2_with fail
   clear hxb
   have hp := H2.out
   have r3 := HR3.out
   rw [show (c0 : ConS) = ⟨false, i0⟩ from rfl] at r3
   have g1 := zb HB2.out (some gp)
   have HW1 : Hid ((w.alloc (.cells #[.bool false, .int .u8 0, .int .i64 0, .int .i64 0, .int .i64 0] 73)).heap.size = w.heap.size + 1) := e1
   rw [show w.heap.size + 1 = (w.alloc (.cells #[.bool false, .int .u8 0, .int .i64 0, .int .i64 0, .int .i64 0] 73)).heap.size from e1.symm]
   clear f2 H2 HR3 HB2
   generalize (w.alloc (.cells #[.bool false, .int .u8 0, .int .i64 0, .int .i64 0, .int .i64 0] 73)).alloc (.cells #[.bool false, .int .u8 0, .int .i64 0, .int .i64 0, .int .i64 0] 73) = W2 at *
   have hg2 : w.heap.size < (w.alloc (.cells #[.bool false, .int .u8 0, .int .i64 0, .int .i64 0, .int .i64 0] 73)).heap.size := by omega
   generalize w.alloc (.cells #[.bool false, .int .u8 0, .int .i64 0, .int .i64 0, .int .i64 0] 73) = W1 at *
   have HG3 : Hid (W1.heap.size ≤ W1.heap.size) := Nat.le_refl _
   have HN23 : Hid (w.heap.size ≠ W1.heap.size) := by unfold Hid; omega
   have HN2 : Hid (w.heap.size ≠ gp) := by have := HW.out; unfold Hid; omega
   have HN3 : Hid (W1.heap.size ≠ gp) := by have := HW.out; unfold Hid; omega
   have HGB : Hid (B ≤ w.heap.size) := HW.out.1
   have HGB3 : Hid (B ≤ W1.heap.size) := by have := HW.out; unfold Hid; omega
   have HG2 : Hid (w.heap.size ≤ w.heap.size) := Nat.le_refl _
   obtain ⟨g3, hg3⟩ : ∃ g3, g3 = W1.heap.size := ⟨_, rfl⟩
   obtain ⟨g2, hg2'⟩ : ∃ g2, g2 = w.heap.size := ⟨_, rfl⟩
   rw [← hg3] at r3 HN3 HGB3 HN23 ⊢
   rw [← hg2'] at HN2 HR2W HGB HN23 ⊢
   have HG3 : Hid (W1.heap.size ≤ g3) := Nat.le_of_eq hg3.symm
   have HG2 : Hid (w.heap.size ≤ g2) := Nat.le_of_eq hg2'.symm
   clear hg3 hg2' hg2 HW1 e1
   have HR3 := Lib.hid r3
   have HG := Lib.hid g1
   have HM := Lib.hid (rtake_any hp ⟨#[97]⟩ [97] rfl (by decide) (by decide))
   clear r3 g1 hp
   go_wp2_with fail
   refine HM.out.mono ?_
   rintro e W4 ⟨rfl, l2, b2, h4, hrel, hgn⟩
   have h3 := zc hgn HR3.out HN3.out
   have hg1 := zd HG.out hgn
   have HREL := Lib.hid hrel
   clear HM HR3 HG hrel hgn
   obtain ⟨gt, ct, L, k, q1, q2, q3, q4, q5, q6, q7, q8⟩ := h4.ex
   have f2 : W4.cell? ⟨gp, 2, none⟩ = some (.int .i64 (erO b2 : Nat)) := q1.cell (show 2 < 5 by omega)
   clear q1 q2 q3 q4 q5 q6 q7 q8
   cases b2 with
   | some e0 =>
     have hx : (((erO (some e0) : Nat) : Int) != 0) = true := by have := h4.er e0 rfl; rw [bne_iff_ne]; show ((e0.1 : Nat) : Int) ≠ 0; omega
     have h6 := h4
     have h2 := zc hg1 HR2W.out HN2.out
     have hg := zd HGW.out hg1
     clear h4 hg1
     have H6 := Lib.hid h6
     have HG := Lib.hid hg
     have H2 := Lib.hid h2
     have a0 := h3.cell (show 0 < 5 by omega)
     have a1 := h3.cell (show 1 < 5 by omega)
     have a2 := h3.cell (show 2 < 5 by omega)
     have a3 := h3.cell (show 3 < 5 by omega)
     have a4 := h3.cell (show 4 < 5 by omega)
     have b0 := h2.cell (show 0 < 5 by omega)
     have b1 := h2.cell (show 1 < 5 by omega)
     have b2' := h2.cell (show 2 < 5 by omega)
     have b3 := h2.cell (show 3 < 5 by omega)
     have b4 := h2.cell (show 4 < 5 by omega)
     have z0 := h2.frozen 0
     have z1 := h2.frozen 1
     have z2 := h2.frozen 2
     have z3 := h2.frozen 3
     have z4 := h2.frozen 4
     dsimp only [conF] at a0 a1 a2 a3 a4 b0 b1 b2' b3 b4
     clear h6 hg h2 h3
     go_wp2_with fail
     (try simp only [Exit.inBlock, Exit.then])
     have hx1 := con_set5 ⟨false, i0⟩ H2.out
     have hx2 := H6.out.kept (row := some g2) (za (za (za (za (za (zf _ _) (.inl rfl) (p := ⟨g2, 0, none⟩) (.bool false)) (.inl rfl) (p := ⟨g2, 1, none⟩) (.int .u8 i0.o)) (.inl rfl) (p := ⟨g2, 2, none⟩) (.int .i64 i0.d)) (.inl rfl) (p := ⟨g2, 3, none⟩) (.int .i64 i0.s)) (.inl rfl) (p := ⟨g2, 4, none⟩) (.int .i64 i0.n)) (fun k e => by injection e with e; subst e; exact HGB.out)
     have hx3 := za (za (za (za (za HG.out (.inr HG2.out) (p := ⟨g2, 0, none⟩) (.bool false)) (.inr HG2.out) (p := ⟨g2, 1, none⟩) (.int .u8 i0.o)) (.inr HG2.out) (p := ⟨g2, 2, none⟩) (.int .i64 i0.d)) (.inr HG2.out) (p := ⟨g2, 3, none⟩) (.int .i64 i0.s)) (.inr HG2.out) (p := ⟨g2, 4, none⟩) (.int .i64 i0.n)
     dsimp only at hx1 hx2 hx3 ⊢
     generalize (((((W4.setCell ⟨g2, 0, none⟩ (.bool false)).setCell ⟨g2, 1, none⟩ (.int .u8 i0.o)).setCell ⟨g2, 2, none⟩ (.int .i64 i0.d)).setCell ⟨g2, 3, none⟩ (.int .i64 i0.s)).setCell ⟨g2, 4, none⟩ (.int .i64 i0.n)) = W9 at hx1 hx2 hx3 ⊢
     refine bodyPost_ret (con_results rfl _ _ g2 ⟨false, i0⟩ rfl hx1) rfl ?_
     exact ⟨⟨false, i0⟩, l2, _, rfl, hx2, cond_bad HR.out HL1.out HREL.out, hx3⟩
   | none =>
     have f2' : W4.cell? ⟨gp, 2, none⟩ = some (.int .i64 0) := f2
     clear f2
     have hbs : Below W4.heap.size W4 (W4.alloc (.cells #[.string ⟨#[61, 61]⟩, .string ⟨#[60]⟩, .string ⟨#[62]⟩] 9)) := (Below.refl _ _).alloc (Nat.le_refl _) _
     have hsc : ∀ i (hi : i < cmpsS.length), (W4.alloc (.cells #[.string ⟨#[61, 61]⟩, .string ⟨#[60]⟩, .string ⟨#[62]⟩] 9)).cell? ⟨W4.heap.size, i, none⟩ = some (.string (mkS cmpsS[i])) := fun i hi => by
      rw [cell_of_row _ _ _ _ _ _ (heap_alloc_new _ _)]
      match i, hi with
      | 0, _ => rfl
      | 1, _ => rfl
      | 2, _ => rfl
     have HSG := Lib.hid (rsign_any (h4.below hbs) W4.heap.size 3 cmpsS hsc cmpsS_sig 19 (by decide))
     have H4 := Lib.hid (h4.below hbs)
     have HR3 := Lib.hid (ze hbs h3 h3.lt)
     have HG := Lib.hid (zd hg1 (zb hbs (some gp)))
     clear hbs hsc h4 h3 hg1
     go_wp2_with fail
     refine HSG.out.mono ?_
     rintro e W5 ⟨rfl, hb⟩
     have h5 := H4.out.below hb
     have r3 := ze hb HR3.out HR3.out.lt
     have g5 := zd HG.out (zb hb (some gp))
     clear hb HSG H4 HR3 HG f2'
     have hlt := look_tab (hd l2).s cmpsS 19 (by decide)
     rw [cmps_tab] at hlt
     have x1 := r3.frozen 1
     have y1 := r3.cell (show 1 < 5 by omega)
     dsimp only [conF, i0] at y1
     cases hlk : look cmps (hd l2).s with
     | none =>
       rw [hlk] at hlt
       rw [show sigO cmpsS 19 (hd l2).s = 0 from hlt.1]
       have HLK := Lib.hid hlk
       clear hlt hlk
       have h5' := h5.off (p := ⟨g3, 1, none⟩) HGB3.out (.int .u8 0)
       have HF := Lib.hid (rfail_any h5' 121 (by decide))
       have r3' : (W5.setCell ⟨g3, 1, none⟩ (.int .u8 0)).rowIs g3 73 5 (conF ⟨false, i0⟩) := con_setO r3 0
       have HG := Lib.hid (za g5 (.inr HG3.out) (p := ⟨g3, 1, none⟩) (.int .u8 0))
       have HR3 := Lib.hid r3'
       have c1 : (W5.setCell ⟨g3, 1, none⟩ (.int .u8 0)).cell? ⟨g3, 1, none⟩ = some (.int .u8 0) := r3'.cell (show 1 < 5 by omega)
       clear h5 h5' r3 r3' g5
       go_wp2_with fail
       refine HF.out.mono ?_
       rintro e W6 ⟨rfl, h6, hgn⟩
       have h3 := zc hgn HR3.out HN3.out
       have hg1 := zd HG.out hgn
       have h2 := zc hg1 HR2W.out HN2.out
       have hg := zd HGW.out hg1
       clear hgn HF HR3 HG x1 y1 c1 hg1
       have H6 := Lib.hid h6
       have HG := Lib.hid hg
       have H2 := Lib.hid h2
       have a0 := h3.cell (show 0 < 5 by omega)
       have a1 := h3.cell (show 1 < 5 by omega)
       have a2 := h3.cell (show 2 < 5 by omega)
       have a3 := h3.cell (show 3 < 5 by omega)
       have a4 := h3.cell (show 4 < 5 by omega)
       have b0 := h2.cell (show 0 < 5 by omega)
       have b1 := h2.cell (show 1 < 5 by omega)
       have b2' := h2.cell (show 2 < 5 by omega)
       have b3 := h2.cell (show 3 < 5 by omega)
       have b4 := h2.cell (show 4 < 5 by omega)
       have z0 := h2.frozen 0
       have z1 := h2.frozen 1
       have z2 := h2.frozen 2
       have z3 := h2.frozen 3
       have z4 := h2.frozen 4
       dsimp only [conF] at a0 a1 a2 a3 a4 b0 b1 b2' b3 b4
       clear h6 hg h2 h3
       go_wp2_with fail
       (try simp only [Exit.inBlock, Exit.then])
       have hx1 := con_set5 ⟨false, i0⟩ H2.out
       have hx2 := H6.out.kept (row := some g2) (za (za (za (za (za (zf _ _) (.inl rfl) (p := ⟨g2, 0, none⟩) (.bool false)) (.inl rfl) (p := ⟨g2, 1, none⟩) (.int .u8 i0.o)) (.inl rfl) (p := ⟨g2, 2, none⟩) (.int .i64 i0.d)) (.inl rfl) (p := ⟨g2, 3, none⟩) (.int .i64 i0.s)) (.inl rfl) (p := ⟨g2, 4, none⟩) (.int .i64 i0.n)) (fun k e => by injection e with e; subst e; exact HGB.out)
       have hx3 := za (za (za (za (za HG.out (.inr HG2.out) (p := ⟨g2, 0, none⟩) (.bool false)) (.inr HG2.out) (p := ⟨g2, 1, none⟩) (.int .u8 i0.o)) (.inr HG2.out) (p := ⟨g2, 2, none⟩) (.int .i64 i0.d)) (.inr HG2.out) (p := ⟨g2, 3, none⟩) (.int .i64 i0.s)) (.inr HG2.out) (p := ⟨g2, 4, none⟩) (.int .i64 i0.n)
       dsimp only at hx1 hx2 hx3 ⊢
       generalize (((((W6.setCell ⟨g2, 0, none⟩ (.bool false)).setCell ⟨g2, 1, none⟩ (.int .u8 i0.o)).setCell ⟨g2, 2, none⟩ (.int .i64 i0.d)).setCell ⟨g2, 3, none⟩ (.int .i64 i0.s)).setCell ⟨g2, 4, none⟩ (.int .i64 i0.n)) = W9 at hx1 hx2 hx3 ⊢
       refine bodyPost_ret (con_results rfl _ _ g2 ⟨false, i0⟩ rfl hx1) rfl ?_
       exact ⟨⟨false, i0⟩, l2, _, rfl, hx2, cond_no HR.out HL1.out HREL.out HLK.out, hx3⟩
     | some op =>
       rw [hlk] at hlt
       rw [show sigO cmpsS 19 (hd l2).s = op from hlt.1]
       have hop0 : op ≠ 0 := fun e => hlt.2 (by rw [e])
       have hopI : ((op : Int) == 0) = false := by rw [beq_eq_false_iff_ne]; omega
       have HLK := Lib.hid hlk
       have HK4 : Hid ((hd l2).k ≠ 4) := (h5.tl.hd_s (cmps_ne hlk).1).1
       clear hlt hlk hop0
       have h5' := h5.off (p := ⟨g3, 1, none⟩) HGB3.out (.int .u8 (op : Nat))
       have hst := rstep_any h5'
       rw [if_neg HK4.out] at hst
       have HF := Lib.hid hst
       have HR3 := Lib.hid (con_setO r3 op)
       have HG := Lib.hid (za g5 (.inr HG3.out) (p := ⟨g3, 1, none⟩) (.int .u8 (op : Nat)))
       have c1 : (W5.setCell ⟨g3, 1, none⟩ (.int .u8 (op : Nat))).cell? ⟨g3, 1, none⟩ = some (.int .u8 op) := (con_setO r3 op).cell (show 1 < 5 by omega)
       clear h5 h5' r3 g5 hst
       go_wp2_with fail
       refine HF.out.mono ?_
       rintro e W6 ⟨rfl, h6, hgn⟩
       have HO := Lib.hid (roperand_any h6 (zd HG.out hgn) HG3.out HGB3.out (zc hgn HR3.out HN3.out) (o := 1) (by omega) rfl)
       clear h6 hgn HF HR3 HG x1 y1 c1
       go_wp2_with fail
       refine HO.out.mono ?_
       rintro e W7 ⟨rfl, sv, nv, l', b', hs7, hn7, h6, h3', hrel, hg1⟩
       have h2 := zc hg1 HR2W.out HN2.out
       have hg := zd HGW.out hg1
       have h3 : W7.rowIs g3 73 5 (conF ⟨false, ⟨op, 0, sv, nv⟩⟩) := h3'.congr fun i hi => by
        match i, hi with
        | 0, _ => rfl
        | 1, _ => rfl
        | 2, _ => rfl
        | 3, _ => rfl
        | 4, _ => rfl
       have HREL7 := Lib.hid hrel
       clear h3' hrel hg1 HO hopI
       have H6 := Lib.hid h6
       have HG := Lib.hid hg
       have H2 := Lib.hid h2
       have a0 := h3.cell (show 0 < 5 by omega)
       have a1 := h3.cell (show 1 < 5 by omega)
       have a2 := h3.cell (show 2 < 5 by omega)
       have a3 := h3.cell (show 3 < 5 by omega)
       have a4 := h3.cell (show 4 < 5 by omega)
       have b0 := h2.cell (show 0 < 5 by omega)
       have b1 := h2.cell (show 1 < 5 by omega)
       have b2' := h2.cell (show 2 < 5 by omega)
       have b3 := h2.cell (show 3 < 5 by omega)
       have b4 := h2.cell (show 4 < 5 by omega)
       have z0 := h2.frozen 0
       have z1 := h2.frozen 1
       have z2 := h2.frozen 2
       have z3 := h2.frozen 3
       have z4 := h2.frozen 4
       dsimp only [conF] at a0 a1 a2 a3 a4 b0 b1 b2' b3 b4
       clear h6 hg h2 h3
       go_wp2_with fail
       (try simp only [Exit.inBlock, Exit.then])
       have hx1 := con_set5 ⟨false, ⟨op, 0, sv, nv⟩⟩ H2.out
       have hx2 := H6.out.kept (row := some g2) (za (za (za (za (za (zf _ _) (.inl rfl) (p := ⟨g2, 0, none⟩) (.bool false)) (.inl rfl) (p := ⟨g2, 1, none⟩) (.int .u8 (⟨op, 0, sv, nv⟩ : InsS).o)) (.inl rfl) (p := ⟨g2, 2, none⟩) (.int .i64 (⟨op, 0, sv, nv⟩ : InsS).d)) (.inl rfl) (p := ⟨g2, 3, none⟩) (.int .i64 (⟨op, 0, sv, nv⟩ : InsS).s)) (.inl rfl) (p := ⟨g2, 4, none⟩) (.int .i64 (⟨op, 0, sv, nv⟩ : InsS).n)) (fun k e => by injection e with e; subst e; exact HGB.out)
       have hx3 := za (za (za (za (za HG.out (.inr HG2.out) (p := ⟨g2, 0, none⟩) (.bool false)) (.inr HG2.out) (p := ⟨g2, 1, none⟩) (.int .u8 (⟨op, 0, sv, nv⟩ : InsS).o)) (.inr HG2.out) (p := ⟨g2, 2, none⟩) (.int .i64 (⟨op, 0, sv, nv⟩ : InsS).d)) (.inr HG2.out) (p := ⟨g2, 3, none⟩) (.int .i64 (⟨op, 0, sv, nv⟩ : InsS).s)) (.inr HG2.out) (p := ⟨g2, 4, none⟩) (.int .i64 (⟨op, 0, sv, nv⟩ : InsS).n)
       dsimp only at hx1 hx2 hx3 ⊢
       generalize (((((W7.setCell ⟨g2, 0, none⟩ (.bool false)).setCell ⟨g2, 1, none⟩ (.int .u8 (⟨op, 0, sv, nv⟩ : InsS).o)).setCell ⟨g2, 2, none⟩ (.int .i64 (⟨op, 0, sv, nv⟩ : InsS).d)).setCell ⟨g2, 3, none⟩ (.int .i64 (⟨op, 0, sv, nv⟩ : InsS).s)).setCell ⟨g2, 4, none⟩ (.int .i64 (⟨op, 0, sv, nv⟩ : InsS).n)) = W9 at hx1 hx2 hx3 ⊢
       refine bodyPost_ret (con_results rfl _ _ g2 ⟨false, ⟨op, 0, sv, nv⟩⟩ rfl hx1) rfl ?_
       exact ⟨⟨false, ⟨op, 0, sv, nv⟩⟩, l', _, rfl, hx2, cond_ok HR.out HL1.out HREL.out HLK.out HREL7.out, hx3⟩
 | none =>
   replace f2 : ((w.alloc (.cells #[.bool false, .int .u8 0, .int .i64 0, .int .i64 0, .int .i64 0] 73)).alloc (.cells #[.bool false, .int .u8 0, .int .i64 0, .int .i64 0, .int .i64 0] 73)).cell? ⟨gp, 2, none⟩ = some (.int .i64 0) := f2
   simp only [Option.isNone_none, Bool.true_and] at hr
   have HI := Lib.hid (ris_any H2.out ⟨#[110, 111, 116]⟩ [110, 111, 116] rfl (by decide) (by decide))
   rw [← hr] at HI
   have HRR := Lib.hid hr
   clear hr
   go_enter Try.func93, Try.ntmps93
   go_wp2_with fail
   refine HI.out.mono ?_
   rintro e W3 ⟨rfl, hb3⟩
   have HB3 := Lib.hid hb3
   clear hb3 HI
   have hp := H2.out
   have r3 := HR3.out
   rw [show (c0 : ConS) = ⟨false, i0⟩ from rfl] at r3
   have g1 := zb HB2.out (some gp)
   have HW1 : Hid ((w.alloc (.cells #[.bool false, .int .u8 0, .int .i64 0, .int .i64 0, .int .i64 0] 73)).heap.size = w.heap.size + 1) := e1
   rw [show w.heap.size + 1 = (w.alloc (.cells #[.bool false, .int .u8 0, .int .i64 0, .int .i64 0, .int .i64 0] 73)).heap.size from e1.symm]
   clear f2 H2 HR3 HB2
   generalize (w.alloc (.cells #[.bool false, .int .u8 0, .int .i64 0, .int .i64 0, .int .i64 0] 73)).alloc (.cells #[.bool false, .int .u8 0, .int .i64 0, .int .i64 0, .int .i64 0] 73) = W2 at *
   have hg2 : w.heap.size < (w.alloc (.cells #[.bool false, .int .u8 0, .int .i64 0, .int .i64 0, .int .i64 0] 73)).heap.size := by omega
   generalize w.alloc (.cells #[.bool false, .int .u8 0, .int .i64 0, .int .i64 0, .int .i64 0] 73) = W1 at *
   have HG3 : Hid (W1.heap.size ≤ W1.heap.size) := Nat.le_refl _
   have HN23 : Hid (w.heap.size ≠ W1.heap.size) := by unfold Hid; omega
   have HN2 : Hid (w.heap.size ≠ gp) := by have := HW.out; unfold Hid; omega
   have HN3 : Hid (W1.heap.size ≠ gp) := by have := HW.out; unfold Hid; omega
   have HGB : Hid (B ≤ w.heap.size) := HW.out.1
   have HGB3 : Hid (B ≤ W1.heap.size) := by have := HW.out; unfold Hid; omega
   have HG2 : Hid (w.heap.size ≤ w.heap.size) := Nat.le_refl _
   obtain ⟨g3, hg3⟩ : ∃ g3, g3 = W1.heap.size := ⟨_, rfl⟩
   obtain ⟨g2, hg2'⟩ : ∃ g2, g2 = w.heap.size := ⟨_, rfl⟩
   rw [← hg3] at r3 HN3 HGB3 HN23 ⊢
   rw [← hg2'] at HN2 HR2W HGB HN23 ⊢
   have HG3 : Hid (W1.heap.size ≤ g3) := Nat.le_of_eq hg3.symm
   have HG2 : Hid (w.heap.size ≤ g2) := Nat.le_of_eq hg2'.symm
   clear hg3 hg2' hg2 HW1 e1
   have hp3 := hp.below HB3.out
   have r33 := ze HB3.out r3 r3.lt
   have g13 := zd g1 (zb HB3.out (some gp))
   clear hp r3 g1 HB3
   cases r with
   | false =>
     rw [if_neg (by decide)] at hl1
     subst hl1
     have HR3 := Lib.hid r33
     have HG := Lib.hid g13
     have HM := Lib.hid (rtake_any hp3 ⟨#[97]⟩ [97] rfl (by decide) (by decide))
     clear r33 g13 hp3
     go_wp2_with fail
     refine HM.out.mono ?_
     rintro e W4 ⟨rfl, l2, b2, h4, hrel, hgn⟩
     have h3 := zc hgn HR3.out HN3.out
     have hg1 := zd HG.out hgn
     have HREL := Lib.hid hrel
     clear HM HR3 HG hrel hgn
     obtain ⟨gt, ct, L, k, q1, q2, q3, q4, q5, q6, q7, q8⟩ := h4.ex
     have f2 : W4.cell? ⟨gp, 2, none⟩ = some (.int .i64 (erO b2 : Nat)) := q1.cell (show 2 < 5 by omega)
     clear q1 q2 q3 q4 q5 q6 q7 q8
     cases b2 with
     | some e0 =>
       have hx : (((erO (some e0) : Nat) : Int) != 0) = true := by have := h4.er e0 rfl; rw [bne_iff_ne]; show ((e0.1 : Nat) : Int) ≠ 0; omega
       have h6 := h4
       have h2 := zc hg1 HR2W.out HN2.out
       have hg := zd HGW.out hg1
       clear h4 hg1
       have H6 := Lib.hid h6
       have HG := Lib.hid hg
       have H2 := Lib.hid h2
       have a0 := h3.cell (show 0 < 5 by omega)
       have a1 := h3.cell (show 1 < 5 by omega)
       have a2 := h3.cell (show 2 < 5 by omega)
       have a3 := h3.cell (show 3 < 5 by omega)
       have a4 := h3.cell (show 4 < 5 by omega)
       have b0 := h2.cell (show 0 < 5 by omega)
       have b1 := h2.cell (show 1 < 5 by omega)
       have b2' := h2.cell (show 2 < 5 by omega)
       have b3 := h2.cell (show 3 < 5 by omega)
       have b4 := h2.cell (show 4 < 5 by omega)
       have z0 := h2.frozen 0
       have z1 := h2.frozen 1
       have z2 := h2.frozen 2
       have z3 := h2.frozen 3
       have z4 := h2.frozen 4
       dsimp only [conF] at a0 a1 a2 a3 a4 b0 b1 b2' b3 b4
       clear h6 hg h2 h3
       go_wp2_with fail
       (try simp only [Exit.inBlock, Exit.then])
       have hx1 := con_set5 ⟨false, i0⟩ H2.out
       have hx2 := H6.out.kept (row := some g2) (za (za (za (za (za (zf _ _) (.inl rfl) (p := ⟨g2, 0, none⟩) (.bool false)) (.inl rfl) (p := ⟨g2, 1, none⟩) (.int .u8 i0.o)) (.inl rfl) (p := ⟨g2, 2, none⟩) (.int .i64 i0.d)) (.inl rfl) (p := ⟨g2, 3, none⟩) (.int .i64 i0.s)) (.inl rfl) (p := ⟨g2, 4, none⟩) (.int .i64 i0.n)) (fun k e => by injection e with e; subst e; exact HGB.out)
       have hx3 := za (za (za (za (za HG.out (.inr HG2.out) (p := ⟨g2, 0, none⟩) (.bool false)) (.inr HG2.out) (p := ⟨g2, 1, none⟩) (.int .u8 i0.o)) (.inr HG2.out) (p := ⟨g2, 2, none⟩) (.int .i64 i0.d)) (.inr HG2.out) (p := ⟨g2, 3, none⟩) (.int .i64 i0.s)) (.inr HG2.out) (p := ⟨g2, 4, none⟩) (.int .i64 i0.n)
       dsimp only at hx1 hx2 hx3 ⊢
       generalize (((((W4.setCell ⟨g2, 0, none⟩ (.bool false)).setCell ⟨g2, 1, none⟩ (.int .u8 i0.o)).setCell ⟨g2, 2, none⟩ (.int .i64 i0.d)).setCell ⟨g2, 3, none⟩ (.int .i64 i0.s)).setCell ⟨g2, 4, none⟩ (.int .i64 i0.n)) = W9 at hx1 hx2 hx3 ⊢
       refine bodyPost_ret (con_results rfl _ _ g2 ⟨false, i0⟩ rfl hx1) rfl ?_
       exact ⟨⟨false, i0⟩, l2, _, rfl, hx2, cond_bad HR.out HL1.out HREL.out, hx3⟩
     | none =>
       have f2' : W4.cell? ⟨gp, 2, none⟩ = some (.int .i64 0) := f2
       clear f2
       have hbs : Below W4.heap.size W4 (W4.alloc (.cells #[.string ⟨#[61, 61]⟩, .string ⟨#[60]⟩, .string ⟨#[62]⟩] 9)) := (Below.refl _ _).alloc (Nat.le_refl _) _
       have hsc : ∀ i (hi : i < cmpsS.length), (W4.alloc (.cells #[.string ⟨#[61, 61]⟩, .string ⟨#[60]⟩, .string ⟨#[62]⟩] 9)).cell? ⟨W4.heap.size, i, none⟩ = some (.string (mkS cmpsS[i])) := fun i hi => by
        rw [cell_of_row _ _ _ _ _ _ (heap_alloc_new _ _)]
        match i, hi with
        | 0, _ => rfl
        | 1, _ => rfl
        | 2, _ => rfl
       have HSG := Lib.hid (rsign_any (h4.below hbs) W4.heap.size 3 cmpsS hsc cmpsS_sig 19 (by decide))
       have H4 := Lib.hid (h4.below hbs)
       have HR3 := Lib.hid (ze hbs h3 h3.lt)
       have HG := Lib.hid (zd hg1 (zb hbs (some gp)))
       clear hbs hsc h4 h3 hg1
       go_wp2_with fail
       refine HSG.out.mono ?_
       rintro e W5 ⟨rfl, hb⟩
       have h5 := H4.out.below hb
       have r3 := ze hb HR3.out HR3.out.lt
       have g5 := zd HG.out (zb hb (some gp))
       clear hb HSG H4 HR3 HG f2'
       have hlt := look_tab (hd l2).s cmpsS 19 (by decide)
       rw [cmps_tab] at hlt
       have x1 := r3.frozen 1
       have y1 := r3.cell (show 1 < 5 by omega)
       dsimp only [conF, i0] at y1
       cases hlk : look cmps (hd l2).s with
       | none =>
         rw [hlk] at hlt
         rw [show sigO cmpsS 19 (hd l2).s = 0 from hlt.1]
         have HLK := Lib.hid hlk
         clear hlt hlk
         have h5' := h5.off (p := ⟨g3, 1, none⟩) HGB3.out (.int .u8 0)
         have HF := Lib.hid (rfail_any h5' 121 (by decide))
         have r3' : (W5.setCell ⟨g3, 1, none⟩ (.int .u8 0)).rowIs g3 73 5 (conF ⟨false, i0⟩) := con_setO r3 0
         have HG := Lib.hid (za g5 (.inr HG3.out) (p := ⟨g3, 1, none⟩) (.int .u8 0))
         have HR3 := Lib.hid r3'
         have c1 : (W5.setCell ⟨g3, 1, none⟩ (.int .u8 0)).cell? ⟨g3, 1, none⟩ = some (.int .u8 0) := r3'.cell (show 1 < 5 by omega)
         clear h5 h5' r3 r3' g5
         go_wp2_with fail
         refine HF.out.mono ?_
         rintro e W6 ⟨rfl, h6, hgn⟩
         have h3 := zc hgn HR3.out HN3.out
         have hg1 := zd HG.out hgn
         have h2 := zc hg1 HR2W.out HN2.out
         have hg := zd HGW.out hg1
         clear hgn HF HR3 HG x1 y1 c1 hg1
         have H6 := Lib.hid h6
         have HG := Lib.hid hg
         have H2 := Lib.hid h2
         have a0 := h3.cell (show 0 < 5 by omega)
         have a1 := h3.cell (show 1 < 5 by omega)
         have a2 := h3.cell (show 2 < 5 by omega)
         have a3 := h3.cell (show 3 < 5 by omega)
         have a4 := h3.cell (show 4 < 5 by omega)
         have b0 := h2.cell (show 0 < 5 by omega)
         have b1 := h2.cell (show 1 < 5 by omega)
         have b2' := h2.cell (show 2 < 5 by omega)
         have b3 := h2.cell (show 3 < 5 by omega)
         have b4 := h2.cell (show 4 < 5 by omega)
         have z0 := h2.frozen 0
         have z1 := h2.frozen 1
         have z2 := h2.frozen 2
         have z3 := h2.frozen 3
         have z4 := h2.frozen 4
         dsimp only [conF] at a0 a1 a2 a3 a4 b0 b1 b2' b3 b4
         clear h6 hg h2 h3
         go_wp2_with fail
         (try simp only [Exit.inBlock, Exit.then])
         have hx1 := con_set5 ⟨false, i0⟩ H2.out
         have hx2 := H6.out.kept (row := some g2) (za (za (za (za (za (zf _ _) (.inl rfl) (p := ⟨g2, 0, none⟩) (.bool false)) (.inl rfl) (p := ⟨g2, 1, none⟩) (.int .u8 i0.o)) (.inl rfl) (p := ⟨g2, 2, none⟩) (.int .i64 i0.d)) (.inl rfl) (p := ⟨g2, 3, none⟩) (.int .i64 i0.s)) (.inl rfl) (p := ⟨g2, 4, none⟩) (.int .i64 i0.n)) (fun k e => by injection e with e; subst e; exact HGB.out)
         have hx3 := za (za (za (za (za HG.out (.inr HG2.out) (p := ⟨g2, 0, none⟩) (.bool false)) (.inr HG2.out) (p := ⟨g2, 1, none⟩) (.int .u8 i0.o)) (.inr HG2.out) (p := ⟨g2, 2, none⟩) (.int .i64 i0.d)) (.inr HG2.out) (p := ⟨g2, 3, none⟩) (.int .i64 i0.s)) (.inr HG2.out) (p := ⟨g2, 4, none⟩) (.int .i64 i0.n)
         dsimp only at hx1 hx2 hx3 ⊢
         generalize (((((W6.setCell ⟨g2, 0, none⟩ (.bool false)).setCell ⟨g2, 1, none⟩ (.int .u8 i0.o)).setCell ⟨g2, 2, none⟩ (.int .i64 i0.d)).setCell ⟨g2, 3, none⟩ (.int .i64 i0.s)).setCell ⟨g2, 4, none⟩ (.int .i64 i0.n)) = W9 at hx1 hx2 hx3 ⊢
         refine bodyPost_ret (con_results rfl _ _ g2 ⟨false, i0⟩ rfl hx1) rfl ?_
         exact ⟨⟨false, i0⟩, l2, _, rfl, hx2, cond_no HR.out HL1.out HREL.out HLK.out, hx3⟩
       | some op =>
         rw [hlk] at hlt
         rw [show sigO cmpsS 19 (hd l2).s = op from hlt.1]
         have hop0 : op ≠ 0 := fun e => hlt.2 (by rw [e])
         have hopI : ((op : Int) == 0) = false := by rw [beq_eq_false_iff_ne]; omega
         have HLK := Lib.hid hlk
         have HK4 : Hid ((hd l2).k ≠ 4) := (h5.tl.hd_s (cmps_ne hlk).1).1
         clear hlt hlk hop0
         have h5' := h5.off (p := ⟨g3, 1, none⟩) HGB3.out (.int .u8 (op : Nat))
         have hst := rstep_any h5'
         rw [if_neg HK4.out] at hst
         have HF := Lib.hid hst
         have HR3 := Lib.hid (con_setO r3 op)
         have HG := Lib.hid (za g5 (.inr HG3.out) (p := ⟨g3, 1, none⟩) (.int .u8 (op : Nat)))
         have c1 : (W5.setCell ⟨g3, 1, none⟩ (.int .u8 (op : Nat))).cell? ⟨g3, 1, none⟩ = some (.int .u8 op) := (con_setO r3 op).cell (show 1 < 5 by omega)
         clear h5 h5' r3 g5 hst
         go_wp2_with fail
         refine HF.out.mono ?_
         rintro e W6 ⟨rfl, h6, hgn⟩
         have HO := Lib.hid (roperand_any h6 (zd HG.out hgn) HG3.out HGB3.out (zc hgn HR3.out HN3.out) (o := 1) (by omega) rfl)
         clear h6 hgn HF HR3 HG x1 y1 c1
         go_wp2_with fail
         refine HO.out.mono ?_
         rintro e W7 ⟨rfl, sv, nv, l', b', hs7, hn7, h6, h3', hrel, hg1⟩
         have h2 := zc hg1 HR2W.out HN2.out
         have hg := zd HGW.out hg1
         have h3 : W7.rowIs g3 73 5 (conF ⟨false, ⟨op, 0, sv, nv⟩⟩) := h3'.congr fun i hi => by
          match i, hi with
          | 0, _ => rfl
          | 1, _ => rfl
          | 2, _ => rfl
          | 3, _ => rfl
          | 4, _ => rfl
         have HREL7 := Lib.hid hrel
         clear h3' hrel hg1 HO hopI
         have H6 := Lib.hid h6
         have HG := Lib.hid hg
         have H2 := Lib.hid h2
         have a0 := h3.cell (show 0 < 5 by omega)
         have a1 := h3.cell (show 1 < 5 by omega)
         have a2 := h3.cell (show 2 < 5 by omega)
         have a3 := h3.cell (show 3 < 5 by omega)
         have a4 := h3.cell (show 4 < 5 by omega)
         have b0 := h2.cell (show 0 < 5 by omega)
         have b1 := h2.cell (show 1 < 5 by omega)
         have b2' := h2.cell (show 2 < 5 by omega)
         have b3 := h2.cell (show 3 < 5 by omega)
         have b4 := h2.cell (show 4 < 5 by omega)
         have z0 := h2.frozen 0
         have z1 := h2.frozen 1
         have z2 := h2.frozen 2
         have z3 := h2.frozen 3
         have z4 := h2.frozen 4
         dsimp only [conF] at a0 a1 a2 a3 a4 b0 b1 b2' b3 b4
         clear h6 hg h2 h3
         go_wp2_with fail
         (try simp only [Exit.inBlock, Exit.then])
         have hx1 := con_set5 ⟨false, ⟨op, 0, sv, nv⟩⟩ H2.out
         have hx2 := H6.out.kept (row := some g2) (za (za (za (za (za (zf _ _) (.inl rfl) (p := ⟨g2, 0, none⟩) (.bool false)) (.inl rfl) (p := ⟨g2, 1, none⟩) (.int .u8 (⟨op, 0, sv, nv⟩ : InsS).o)) (.inl rfl) (p := ⟨g2, 2, none⟩) (.int .i64 (⟨op, 0, sv, nv⟩ : InsS).d)) (.inl rfl) (p := ⟨g2, 3, none⟩) (.int .i64 (⟨op, 0, sv, nv⟩ : InsS).s)) (.inl rfl) (p := ⟨g2, 4, none⟩) (.int .i64 (⟨op, 0, sv, nv⟩ : InsS).n)) (fun k e => by injection e with e; subst e; exact HGB.out)
         have hx3 := za (za (za (za (za HG.out (.inr HG2.out) (p := ⟨g2, 0, none⟩) (.bool false)) (.inr HG2.out) (p := ⟨g2, 1, none⟩) (.int .u8 (⟨op, 0, sv, nv⟩ : InsS).o)) (.inr HG2.out) (p := ⟨g2, 2, none⟩) (.int .i64 (⟨op, 0, sv, nv⟩ : InsS).d)) (.inr HG2.out) (p := ⟨g2, 3, none⟩) (.int .i64 (⟨op, 0, sv, nv⟩ : InsS).s)) (.inr HG2.out) (p := ⟨g2, 4, none⟩) (.int .i64 (⟨op, 0, sv, nv⟩ : InsS).n)
         dsimp only at hx1 hx2 hx3 ⊢
         generalize (((((W7.setCell ⟨g2, 0, none⟩ (.bool false)).setCell ⟨g2, 1, none⟩ (.int .u8 (⟨op, 0, sv, nv⟩ : InsS).o)).setCell ⟨g2, 2, none⟩ (.int .i64 (⟨op, 0, sv, nv⟩ : InsS).d)).setCell ⟨g2, 3, none⟩ (.int .i64 (⟨op, 0, sv, nv⟩ : InsS).s)).setCell ⟨g2, 4, none⟩ (.int .i64 (⟨op, 0, sv, nv⟩ : InsS).n)) = W9 at hx1 hx2 hx3 ⊢
         refine bodyPost_ret (con_results rfl _ _ g2 ⟨false, ⟨op, 0, sv, nv⟩⟩ rfl hx1) rfl ?_
         exact ⟨⟨false, ⟨op, 0, sv, nv⟩⟩, l', _, rfl, hx2, cond_ok HR.out HL1.out HREL.out HLK.out HREL7.out, hx3⟩
   | true =>
     rw [if_pos rfl] at hl1
     subst hl1
     have x0 := r33.frozen 0
     have y0 := r33.cell (show 0 < 5 by omega)
     dsimp only [conF] at y0
     have hk4 : (hd l).k ≠ 4 := (hp3.tl.hd_s (by rw [of_decide_eq_true HRR.out.symm]; decide)).1
     have hst := rstep_any (hp3.off (p := ⟨g3, 0, none⟩) HGB3.out (.bool true))
     rw [if_neg hk4] at hst
     have HF := Lib.hid hst
     have HR3 : Hid ((W3.setCell ⟨g3, 0, none⟩ (.bool true)).rowIs g3 73 5 (conF ⟨true, i0⟩)) := con_setN r33 true
     have HG := Lib.hid (za g13 (.inr HG3.out) (p := ⟨g3, 0, none⟩) (.bool true))
     clear hst hk4 hp3 r33 g13
     go_wp2_with fail
     refine HF.out.mono ?_
     rintro e W5 ⟨rfl, hp5, hgn⟩
     have r35 := zc hgn HR3.out HN3.out
     have g15 := zd HG.out hgn
     clear hgn HF HR3 HG x0 y0
     have HR3 := Lib.hid r35
     have HG := Lib.hid g15
     have HM := Lib.hid (rtake_any hp5 ⟨#[97]⟩ [97] rfl (by decide) (by decide))
     clear r35 g15 hp5
     go_wp2_with fail
     refine HM.out.mono ?_
     rintro e W4 ⟨rfl, l2, b2, h4, hrel, hgn⟩
     have h3 := zc hgn HR3.out HN3.out
     have hg1 := zd HG.out hgn
     have HREL := Lib.hid hrel
     clear HM HR3 HG hrel hgn
     obtain ⟨gt, ct, L, k, q1, q2, q3, q4, q5, q6, q7, q8⟩ := h4.ex
     have f2 : W4.cell? ⟨gp, 2, none⟩ = some (.int .i64 (erO b2 : Nat)) := q1.cell (show 2 < 5 by omega)
     clear q1 q2 q3 q4 q5 q6 q7 q8
     cases b2 with
     | some e0 =>
       have hx : (((erO (some e0) : Nat) : Int) != 0) = true := by have := h4.er e0 rfl; rw [bne_iff_ne]; show ((e0.1 : Nat) : Int) ≠ 0; omega
       have h6 := h4
       have h2 := zc hg1 HR2W.out HN2.out
       have hg := zd HGW.out hg1
       clear h4 hg1
       have H6 := Lib.hid h6
       have HG := Lib.hid hg
       have H2 := Lib.hid h2
       have a0 := h3.cell (show 0 < 5 by omega)
       have a1 := h3.cell (show 1 < 5 by omega)
       have a2 := h3.cell (show 2 < 5 by omega)
       have a3 := h3.cell (show 3 < 5 by omega)
       have a4 := h3.cell (show 4 < 5 by omega)
       have b0 := h2.cell (show 0 < 5 by omega)
       have b1 := h2.cell (show 1 < 5 by omega)
       have b2' := h2.cell (show 2 < 5 by omega)
       have b3 := h2.cell (show 3 < 5 by omega)
       have b4 := h2.cell (show 4 < 5 by omega)
       have z0 := h2.frozen 0
       have z1 := h2.frozen 1
       have z2 := h2.frozen 2
       have z3 := h2.frozen 3
       have z4 := h2.frozen 4
       dsimp only [conF] at a0 a1 a2 a3 a4 b0 b1 b2' b3 b4
       clear h6 hg h2 h3
       go_wp2_with fail
       (try simp only [Exit.inBlock, Exit.then])
       have hx1 := con_set5 ⟨true, i0⟩ H2.out
       have hx2 := H6.out.kept (row := some g2) (za (za (za (za (za (zf _ _) (.inl rfl) (p := ⟨g2, 0, none⟩) (.bool true)) (.inl rfl) (p := ⟨g2, 1, none⟩) (.int .u8 i0.o)) (.inl rfl) (p := ⟨g2, 2, none⟩) (.int .i64 i0.d)) (.inl rfl) (p := ⟨g2, 3, none⟩) (.int .i64 i0.s)) (.inl rfl) (p := ⟨g2, 4, none⟩) (.int .i64 i0.n)) (fun k e => by injection e with e; subst e; exact HGB.out)
       have hx3 := za (za (za (za (za HG.out (.inr HG2.out) (p := ⟨g2, 0, none⟩) (.bool true)) (.inr HG2.out) (p := ⟨g2, 1, none⟩) (.int .u8 i0.o)) (.inr HG2.out) (p := ⟨g2, 2, none⟩) (.int .i64 i0.d)) (.inr HG2.out) (p := ⟨g2, 3, none⟩) (.int .i64 i0.s)) (.inr HG2.out) (p := ⟨g2, 4, none⟩) (.int .i64 i0.n)
       dsimp only at hx1 hx2 hx3 ⊢
       generalize (((((W4.setCell ⟨g2, 0, none⟩ (.bool true)).setCell ⟨g2, 1, none⟩ (.int .u8 i0.o)).setCell ⟨g2, 2, none⟩ (.int .i64 i0.d)).setCell ⟨g2, 3, none⟩ (.int .i64 i0.s)).setCell ⟨g2, 4, none⟩ (.int .i64 i0.n)) = W9 at hx1 hx2 hx3 ⊢
       refine bodyPost_ret (con_results rfl _ _ g2 ⟨true, i0⟩ rfl hx1) rfl ?_
       exact ⟨⟨true, i0⟩, l2, _, rfl, hx2, cond_bad HR.out HL1.out HREL.out, hx3⟩
     | none =>
       have f2' : W4.cell? ⟨gp, 2, none⟩ = some (.int .i64 0) := f2
       clear f2
       have hbs : Below W4.heap.size W4 (W4.alloc (.cells #[.string ⟨#[61, 61]⟩, .string ⟨#[60]⟩, .string ⟨#[62]⟩] 9)) := (Below.refl _ _).alloc (Nat.le_refl _) _
       have hsc : ∀ i (hi : i < cmpsS.length), (W4.alloc (.cells #[.string ⟨#[61, 61]⟩, .string ⟨#[60]⟩, .string ⟨#[62]⟩] 9)).cell? ⟨W4.heap.size, i, none⟩ = some (.string (mkS cmpsS[i])) := fun i hi => by
        rw [cell_of_row _ _ _ _ _ _ (heap_alloc_new _ _)]
        match i, hi with
        | 0, _ => rfl
        | 1, _ => rfl
        | 2, _ => rfl
       have HSG := Lib.hid (rsign_any (h4.below hbs) W4.heap.size 3 cmpsS hsc cmpsS_sig 19 (by decide))
       have H4 := Lib.hid (h4.below hbs)
       have HR3 := Lib.hid (ze hbs h3 h3.lt)
       have HG := Lib.hid (zd hg1 (zb hbs (some gp)))
       clear hbs hsc h4 h3 hg1
       go_wp2_with fail
       refine HSG.out.mono ?_
       rintro e W5 ⟨rfl, hb⟩
       have h5 := H4.out.below hb
       have r3 := ze hb HR3.out HR3.out.lt
       have g5 := zd HG.out (zb hb (some gp))
       clear hb HSG H4 HR3 HG f2'
       have hlt := look_tab (hd l2).s cmpsS 19 (by decide)
       rw [cmps_tab] at hlt
       have x1 := r3.frozen 1
       have y1 := r3.cell (show 1 < 5 by omega)
       dsimp only [conF, i0] at y1
       cases hlk : look cmps (hd l2).s with
       | none =>
         rw [hlk] at hlt
         rw [show sigO cmpsS 19 (hd l2).s = 0 from hlt.1]
         have HLK := Lib.hid hlk
         clear hlt hlk
         have h5' := h5.off (p := ⟨g3, 1, none⟩) HGB3.out (.int .u8 0)
         have HF := Lib.hid (rfail_any h5' 121 (by decide))
         have r3' : (W5.setCell ⟨g3, 1, none⟩ (.int .u8 0)).rowIs g3 73 5 (conF ⟨true, i0⟩) := con_setO r3 0
         have HG := Lib.hid (za g5 (.inr HG3.out) (p := ⟨g3, 1, none⟩) (.int .u8 0))
         have HR3 := Lib.hid r3'
         have c1 : (W5.setCell ⟨g3, 1, none⟩ (.int .u8 0)).cell? ⟨g3, 1, none⟩ = some (.int .u8 0) := r3'.cell (show 1 < 5 by omega)
         clear h5 h5' r3 r3' g5
         go_wp2_with fail
         refine HF.out.mono ?_
         rintro e W6 ⟨rfl, h6, hgn⟩
         have h3 := zc hgn HR3.out HN3.out
         have hg1 := zd HG.out hgn
         have h2 := zc hg1 HR2W.out HN2.out
         have hg := zd HGW.out hg1
         clear hgn HF HR3 HG x1 y1 c1 hg1
         have H6 := Lib.hid h6
         have HG := Lib.hid hg
         have H2 := Lib.hid h2
         have a0 := h3.cell (show 0 < 5 by omega)
         have a1 := h3.cell (show 1 < 5 by omega)
         have a2 := h3.cell (show 2 < 5 by omega)
         have a3 := h3.cell (show 3 < 5 by omega)
         have a4 := h3.cell (show 4 < 5 by omega)
         have b0 := h2.cell (show 0 < 5 by omega)
         have b1 := h2.cell (show 1 < 5 by omega)
         have b2' := h2.cell (show 2 < 5 by omega)
         have b3 := h2.cell (show 3 < 5 by omega)
         have b4 := h2.cell (show 4 < 5 by omega)
         have z0 := h2.frozen 0
         have z1 := h2.frozen 1
         have z2 := h2.frozen 2
         have z3 := h2.frozen 3
         have z4 := h2.frozen 4
         dsimp only [conF] at a0 a1 a2 a3 a4 b0 b1 b2' b3 b4
         clear h6 hg h2 h3
         go_wp2_with fail
         (try simp only [Exit.inBlock, Exit.then])
         have hx1 := con_set5 ⟨true, i0⟩ H2.out
         have hx2 := H6.out.kept (row := some g2) (za (za (za (za (za (zf _ _) (.inl rfl) (p := ⟨g2, 0, none⟩) (.bool true)) (.inl rfl) (p := ⟨g2, 1, none⟩) (.int .u8 i0.o)) (.inl rfl) (p := ⟨g2, 2, none⟩) (.int .i64 i0.d)) (.inl rfl) (p := ⟨g2, 3, none⟩) (.int .i64 i0.s)) (.inl rfl) (p := ⟨g2, 4, none⟩) (.int .i64 i0.n)) (fun k e => by injection e with e; subst e; exact HGB.out)
         have hx3 := za (za (za (za (za HG.out (.inr HG2.out) (p := ⟨g2, 0, none⟩) (.bool true)) (.inr HG2.out) (p := ⟨g2, 1, none⟩) (.int .u8 i0.o)) (.inr HG2.out) (p := ⟨g2, 2, none⟩) (.int .i64 i0.d)) (.inr HG2.out) (p := ⟨g2, 3, none⟩) (.int .i64 i0.s)) (.inr HG2.out) (p := ⟨g2, 4, none⟩) (.int .i64 i0.n)
         dsimp only at hx1 hx2 hx3 ⊢
         generalize (((((W6.setCell ⟨g2, 0, none⟩ (.bool true)).setCell ⟨g2, 1, none⟩ (.int .u8 i0.o)).setCell ⟨g2, 2, none⟩ (.int .i64 i0.d)).setCell ⟨g2, 3, none⟩ (.int .i64 i0.s)).setCell ⟨g2, 4, none⟩ (.int .i64 i0.n)) = W9 at hx1 hx2 hx3 ⊢
         refine bodyPost_ret (con_results rfl _ _ g2 ⟨true, i0⟩ rfl hx1) rfl ?_
         exact ⟨⟨true, i0⟩, l2, _, rfl, hx2, cond_no HR.out HL1.out HREL.out HLK.out, hx3⟩
       | some op =>
         rw [hlk] at hlt
         rw [show sigO cmpsS 19 (hd l2).s = op from hlt.1]
         have hop0 : op ≠ 0 := fun e => hlt.2 (by rw [e])
         have hopI : ((op : Int) == 0) = false := by rw [beq_eq_false_iff_ne]; omega
         have HLK := Lib.hid hlk
         have HK4 : Hid ((hd l2).k ≠ 4) := (h5.tl.hd_s (cmps_ne hlk).1).1
         clear hlt hlk hop0
         have h5' := h5.off (p := ⟨g3, 1, none⟩) HGB3.out (.int .u8 (op : Nat))
         have hst := rstep_any h5'
         rw [if_neg HK4.out] at hst
         have HF := Lib.hid hst
         have HR3 := Lib.hid (con_setO r3 op)
         have HG := Lib.hid (za g5 (.inr HG3.out) (p := ⟨g3, 1, none⟩) (.int .u8 (op : Nat)))
         have c1 : (W5.setCell ⟨g3, 1, none⟩ (.int .u8 (op : Nat))).cell? ⟨g3, 1, none⟩ = some (.int .u8 op) := (con_setO r3 op).cell (show 1 < 5 by omega)
         clear h5 h5' r3 g5 hst
         go_wp2_with fail
         refine HF.out.mono ?_
         rintro e W6 ⟨rfl, h6, hgn⟩
         have HO := Lib.hid (roperand_any h6 (zd HG.out hgn) HG3.out HGB3.out (zc hgn HR3.out HN3.out) (o := 1) (by omega) rfl)
         clear h6 hgn HF HR3 HG x1 y1 c1
         go_wp2_with fail
         refine HO.out.mono ?_
         rintro e W7 ⟨rfl, sv, nv, l', b', hs7, hn7, h6, h3', hrel, hg1⟩
         have h2 := zc hg1 HR2W.out HN2.out
         have hg := zd HGW.out hg1
         have h3 : W7.rowIs g3 73 5 (conF ⟨true, ⟨op, 0, sv, nv⟩⟩) := h3'.congr fun i hi => by
          match i, hi with
          | 0, _ => rfl
          | 1, _ => rfl
          | 2, _ => rfl
          | 3, _ => rfl
          | 4, _ => rfl
         have HREL7 := Lib.hid hrel
         clear h3' hrel hg1 HO hopI
         have H6 := Lib.hid h6
         have HG := Lib.hid hg
         have H2 := Lib.hid h2
         have a0 := h3.cell (show 0 < 5 by omega)
         have a1 := h3.cell (show 1 < 5 by omega)
         have a2 := h3.cell (show 2 < 5 by omega)
         have a3 := h3.cell (show 3 < 5 by omega)
         have a4 := h3.cell (show 4 < 5 by omega)
         have b0 := h2.cell (show 0 < 5 by omega)
         have b1 := h2.cell (show 1 < 5 by omega)
         have b2' := h2.cell (show 2 < 5 by omega)
         have b3 := h2.cell (show 3 < 5 by omega)
         have b4 := h2.cell (show 4 < 5 by omega)
         have z0 := h2.frozen 0
         have z1 := h2.frozen 1
         have z2 := h2.frozen 2
         have z3 := h2.frozen 3
         have z4 := h2.frozen 4
         dsimp only [conF] at a0 a1 a2 a3 a4 b0 b1 b2' b3 b4
         clear h6 hg h2 h3
         go_wp2_with fail
         (try simp only [Exit.inBlock, Exit.then])
         have hx1 := con_set5 ⟨true, ⟨op, 0, sv, nv⟩⟩ H2.out
         have hx2 := H6.out.kept (row := some g2) (za (za (za (za (za (zf _ _) (.inl rfl) (p := ⟨g2, 0, none⟩) (.bool true)) (.inl rfl) (p := ⟨g2, 1, none⟩) (.int .u8 (⟨op, 0, sv, nv⟩ : InsS).o)) (.inl rfl) (p := ⟨g2, 2, none⟩) (.int .i64 (⟨op, 0, sv, nv⟩ : InsS).d)) (.inl rfl) (p := ⟨g2, 3, none⟩) (.int .i64 (⟨op, 0, sv, nv⟩ : InsS).s)) (.inl rfl) (p := ⟨g2, 4, none⟩) (.int .i64 (⟨op, 0, sv, nv⟩ : InsS).n)) (fun k e => by injection e with e; subst e; exact HGB.out)
         have hx3 := za (za (za (za (za HG.out (.inr HG2.out) (p := ⟨g2, 0, none⟩) (.bool true)) (.inr HG2.out) (p := ⟨g2, 1, none⟩) (.int .u8 (⟨op, 0, sv, nv⟩ : InsS).o)) (.inr HG2.out) (p := ⟨g2, 2, none⟩) (.int .i64 (⟨op, 0, sv, nv⟩ : InsS).d)) (.inr HG2.out) (p := ⟨g2, 3, none⟩) (.int .i64 (⟨op, 0, sv, nv⟩ : InsS).s)) (.inr HG2.out) (p := ⟨g2, 4, none⟩) (.int .i64 (⟨op, 0, sv, nv⟩ : InsS).n)
         dsimp only at hx1 hx2 hx3 ⊢
         generalize (((((W7.setCell ⟨g2, 0, none⟩ (.bool true)).setCell ⟨g2, 1, none⟩ (.int .u8 (⟨op, 0, sv, nv⟩ : InsS).o)).setCell ⟨g2, 2, none⟩ (.int .i64 (⟨op, 0, sv, nv⟩ : InsS).d)).setCell ⟨g2, 3, none⟩ (.int .i64 (⟨op, 0, sv, nv⟩ : InsS).s)).setCell ⟨g2, 4, none⟩ (.int .i64 (⟨op, 0, sv, nv⟩ : InsS).n)) = W9 at hx1 hx2 hx3 ⊢
         refine bodyPost_ret (con_results rfl _ _ g2 ⟨true, ⟨op, 0, sv, nv⟩⟩ rfl hx1) rfl ?_
         exact ⟨⟨true, ⟨op, 0, sv, nv⟩⟩, l', _, rfl, hx2, cond_ok HR.out HL1.out HREL.out HLK.out HREL7.out, hx3⟩
end
end Go.Proofs.Ytiadfmhodlbkiaa
