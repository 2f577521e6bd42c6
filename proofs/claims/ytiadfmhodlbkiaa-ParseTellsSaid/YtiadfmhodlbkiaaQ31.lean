/-
 THE WALK OF the document's part. Conditions: a parser without a fault.
-/
import Derived.Test.YtiadfmhodlbkiaaQ30
import Derived.Test.YtiadfmhodlbkiaaQ18
namespace Go.Proofs.Ytiadfmhodlbkiaa
open Go.RowKit
set_option linter.unusedSimpArgs false
set_option linter.unusedVariables false
theorem tok_f1 (k n ln : Int) (s : ByteArray) (W : World) : (Instr.field 60 (.agg #[.int .u8 k, .string s, .int .i64 n, .int .i64 ln]) 1).run Try.prog W = .ok (.string s) W := by kernel_rfl
theorem rel_nums {n v : Nat} {l l1 l' : List Tok} {b b1 b' : Option Flt} {vs : List Nat} (h1 : Rel (num 65535) l b v l1 b1) (h2 : Rel (nums n) l1 b1 vs l' b') : Rel (nums (n + 1)) l b (v :: vs) l' b' :=
 Rel.of (m := l) (G := bindR (num 65535) fun v => mapR (fun ns => v :: ns) (nums n)) (by
  rw [nums]; unfold bindR mapR
  rcases num 65535 l with e | ⟨y, z⟩
  · rfl
  · simp only []
    rcases nums n z with e | ⟨y2, z2⟩ <;> rfl) (.bindR h1 (.map (g := fun ns => v :: ns) h2))
theorem rel_nums0 {l : List Tok} {b : Option Flt} : Rel (nums 0) l b [] l b := .ok rfl
theorem part_relN {l l' : List Tok} {b' : Option Flt} {k n : Nat} {mn : Bool} {vs : List Nat} (h : look partL (hd l).s = some k) (hm : mn = (k == 1 && decide ((hd l.tail).s = [109, 105, 110, 117, 115]))) (hn : n = partN.getD k 0)
  (hr : Rel (nums n) (if mn = true then l.tail.tail else l.tail) none vs l' b') {x : PartS} (hx : x = mkPart k mn vs) : Rel part l none x l' b' := by
 unfold Rel at hr ⊢
 simp only at hr ⊢
 unfold part
 simp only [h]
 rw [← hm, ← hn]
 rcases hq : nums n (if mn = true then l.tail.tail else l.tail) with e | ⟨y, z⟩
 · rw [hq] at hr; exact hr
 · rw [hq] at hr
   obtain ⟨h1, h2, h3⟩ := hr
   exact ⟨h1, by rw [hx, h2], h3⟩
section
variable {w : World} {B gp gi : Nat} {l : List Tok} {b : Option Flt} {many : Nat}
set_option maxRecDepth 100000 in
set_option maxHeartbeats 40000000 in
theorem rpart_const_m (h : RS B w gp l none many) (hss : (hd l).s = [99, 111, 110, 115, 116]) (hmi : (hd l.tail).s = [109, 105, 110, 117, 115]) : Calls Try.prog 34 #[.pointer (some ⟨gp, 0, none⟩)] w fun e w' => ∃ x l' b', e = .returned (.agg (ptA x)) ∧ RS B w' gp l' b' many ∧ Rel part l none x l' b' ∧ w.grownBy w' (some gp) := by
 have HMI := Lib.hid hmi
 clear hmi
 have hk1 : (hd l).k = 1 := wordk h.tl.hd_ok (by rw [hss]; decide) (by rw [hss]; decide)
 have HK4 : Hid ((hd l).k ≠ 4) := (h.tl.hd_s (by rw [hss]; decide)).1
 have HK1 := Lib.hid hk1
 have HSS := Lib.hid hss
 clear hss hk1
 have HW := Lib.hid (And.intro h.bw h.bp)
 have hb1 : Below w.heap.size w (w.alloc zZ4) := (Below.refl _ _).alloc (Nat.le_refl _) _
 have h1 := h.below hb1
 have hN1 := rnow_any h1
 obtain ⟨tk, htk⟩ : ∃ tk, tk = hd l := ⟨_, rfl⟩
 rw [← htk] at hN1
 have HN1 := Lib.hid hN1
 have HT := Lib.hid htk
 have HOK : Hid (TokOk tk) := by rw [htk]; exact h.tl.hd_ok
 have HP := Lib.hid h1
 have R2 := Lib.hid (pt_row (x := p0) (heap_alloc_new w zZ4))
 have G1 := Lib.hid (zb hb1 (some gp))
 have hf1 := tok_f1
 have hf0 := tok_f0
 clear h h1 hb1 hN1 htk
 go_enter Try.func34, Try.ntmps34
 go_wp2_with fail
 generalize w.alloc zZ4 = W1 at *
 obtain ⟨g2, hg2⟩ : ∃ g2, g2 = w.heap.size := ⟨_, rfl⟩
 rw [← hg2] at R2 ⊢
 have HG2 := Lib.hid hg2
 have HN2 : Hid (g2 ≠ gp) := by have := HW.out; unfold Hid; omega
 clear hg2
 refine HN1.out.mono ?_
 rintro e Wa ⟨rfl, hb⟩
 clear HN1
 replace HP := Lib.hid (HP.out.below hb)
 replace G1 := Lib.hid (zd G1.out (zb hb (some gp)))
 replace R2 := Lib.hid (ze hb R2.out R2.out.lt)
 clear hb
 have hN2 := rnow_any HP.out
 rw [← HT.out] at hN2
 have HN2x := Lib.hid hN2
 clear hN2
 go_wp2_with fail
 refine HN2x.out.mono ?_
 rintro e Wb ⟨rfl, hb⟩
 clear HN2x
 replace HP := Lib.hid (HP.out.below hb)
 replace G1 := Lib.hid (zd G1.out (zb hb (some gp)))
 replace R2 := Lib.hid (ze hb R2.out R2.out.lt)
 clear hb
 have k1I : ((tk.k : Int) != 1) = false := by rw [HT.out, HK1.out]; rfl
 have q0 : ((mkS tk.s).toList == ([99, 111, 110, 115, 116] : List UInt8)) = true := by rw [show ([99, 111, 110, 115, 116] : List UInt8) = (mkS [99, 111, 110, 115, 116]).toList from (by rw [Lib.toList_data]; rfl), mkS_eq HOK.out.1 (by decide)]; exact decide_eq_true (by rw [HT.out, HSS.out])
 have q1 : ((mkS tk.s).toList == ([99, 109] : List UInt8)) = false := nW [99, 109] HOK.out.1 (by decide) (by rw [HT.out, HSS.out]; decide)
 have q2 : ((mkS tk.s).toList == ([105, 99, 109] : List UInt8)) = false := nW [105, 99, 109] HOK.out.1 (by decide) (by rw [HT.out, HSS.out]; decide)
 have q3 : ((mkS tk.s).toList == ([109, 97, 116, 99, 104] : List UInt8)) = false := nW [109, 97, 116, 99, 104] HOK.out.1 (by decide) (by rw [HT.out, HSS.out]; decide)
 have q4 : ((mkS tk.s).toList == ([97, 118, 103] : List UInt8)) = false := nW [97, 118, 103] HOK.out.1 (by decide) (by rw [HT.out, HSS.out]; decide)
 have q5 : ((mkS tk.s).toList == ([112, 97, 105, 114] : List UInt8)) = false := nW [112, 97, 105, 114] HOK.out.1 (by decide) (by rw [HT.out, HSS.out]; decide)
 have q6 : ((mkS tk.s).toList == ([109, 105, 120] : List UInt8)) = false := nW [109, 105, 120] HOK.out.1 (by decide) (by rw [HT.out, HSS.out]; decide)
 have q7 : ((mkS tk.s).toList == ([105, 115, 115, 101] : List UInt8)) = false := nW [105, 115, 115, 101] HOK.out.1 (by decide) (by rw [HT.out, HSS.out]; decide)
 have q8 : ((mkS tk.s).toList == ([115, 115, 101] : List UInt8)) = false := nW [115, 115, 101] HOK.out.1 (by decide) (by rw [HT.out, HSS.out]; decide)
 have hst := rstep_any HP.out
 rw [if_neg HK4.out] at hst
 have HM := Lib.hid (hst)
 go_wp2_with fail
 refine HM.out.mono ?_
 rintro e W2 ⟨rfl, hp, hgn⟩
 replace G1 := Lib.hid (zd G1.out hgn)
 replace R2 := Lib.hid (zc hgn R2.out HN2.out)
 clear HM HP hgn
 have HP := Lib.hid hp
 clear hp
 clear hst k1I hf0 hf1
 have HI0 := ris_any HP.out ⟨#[109, 105, 110, 117, 115]⟩ [109, 105, 110, 117, 115] rfl (by decide) (by decide)
 rw [decide_eq_true HMI.out] at HI0
 have HI := Lib.hid HI0
 clear HI0
 go_wp2_with fail
 refine HI.out.mono ?_
 rintro e W3 ⟨rfl, hb⟩
 clear HI
 replace HP := Lib.hid (HP.out.below hb)
 replace G1 := Lib.hid (zd G1.out (zb hb (some gp)))
 replace R2 := Lib.hid (ze hb R2.out R2.out.lt)
 clear hb
 have hk42 : (hd l.tail).k ≠ 4 := (HP.out.tl.hd_s (by rw [HMI.out]; decide)).1
 have hst := rstep_any HP.out
 rw [if_neg hk42] at hst
 clear hk42
 have HM := Lib.hid (hst)
 go_wp2_with fail
 refine HM.out.mono ?_
 rintro e W4 ⟨rfl, hp, hgn⟩
 replace G1 := Lib.hid (zd G1.out hgn)
 replace R2 := Lib.hid (zc hgn R2.out HN2.out)
 clear HM HP hgn
 have HP := Lib.hid hp
 clear hp
 clear hst
 have HM := Lib.hid (rn_any HP.out)
 go_wp2_with fail
 refine HM.out.mono ?_
 rintro e X0 ⟨v0, m0, f0, hv0, rfl, hp, hr0, hgn⟩
 replace G1 := Lib.hid (zd G1.out hgn)
 replace R2 := Lib.hid (zc hgn R2.out HN2.out)
 clear HM HP hgn
 have HP := Lib.hid hp
 clear hp
 have HR0 := Lib.hid hr0
 clear hr0
 have hwn : IntKind.i64.wrap (-(v0 : Int)) = -(v0 : Int) := by rw [IntKind.wrap_i64]; omega; all_goals omega
 obtain ⟨xx, hxx⟩ : ∃ xx : PartS, xx = (⟨1, 0, 0, 0, (-(v0 : Int)), 0, 0⟩ : PartS) := ⟨_, rfl⟩
 have HXX := Lib.hid hxx
 clear hxx
 have HRL : Hid (Rel part l none (⟨1, 0, 0, 0, (-(v0 : Int)), 0, 0⟩ : PartS) m0 f0) := part_relN (vs := [v0]) (mn := true) (by rw [HSS.out]; rfl : look partL (hd l).s = some 1) (by rw [HMI.out]; rfl) rfl (rel_nums HR0.out rel_nums0) rfl
 have b0 := R2.out.cell (show 0 < 7 by omega)
 have z0 := R2.out.frozen 0
 have b1 := R2.out.cell (show 1 < 7 by omega)
 have z1 := R2.out.frozen 1
 have b2 := R2.out.cell (show 2 < 7 by omega)
 have z2 := R2.out.frozen 2
 have b3 := R2.out.cell (show 3 < 7 by omega)
 have z3 := R2.out.frozen 3
 have b4 := R2.out.cell (show 4 < 7 by omega)
 have z4 := R2.out.frozen 4
 have b5 := R2.out.cell (show 5 < 7 by omega)
 have z5 := R2.out.frozen 5
 have b6 := R2.out.cell (show 6 < 7 by omega)
 have z6 := R2.out.frozen 6
 dsimp only [ptF, p0] at b0 b1 b2 b3 b4 b5 b6
 go_wp2_with fail
 (try simp only [Exit.inBlock, Exit.then])
 have hx0 := (za (za (za (za (za (za (za (zf X0 (some g2)) (.inl rfl) (p := ⟨g2, 0, none⟩) (.int .u8 1)) (.inl rfl) (p := ⟨g2, 1, none⟩) (.int .i64 0)) (.inl rfl) (p := ⟨g2, 2, none⟩) (.int .i64 0)) (.inl rfl) (p := ⟨g2, 3, none⟩) (.int .i64 0)) (.inl rfl) (p := ⟨g2, 4, none⟩) (.int .i64 (-(v0 : Int)))) (.inl rfl) (p := ⟨g2, 5, none⟩) (.int .i64 0)) (.inl rfl) (p := ⟨g2, 6, none⟩) (.int .i64 0))
 have hx1 : World.rowIs (((((((X0.setCell ⟨g2, 0, none⟩ (.int .u8 1)).setCell ⟨g2, 1, none⟩ (.int .i64 0)).setCell ⟨g2, 2, none⟩ (.int .i64 0)).setCell ⟨g2, 3, none⟩ (.int .i64 0)).setCell ⟨g2, 4, none⟩ (.int .i64 (-(v0 : Int)))).setCell ⟨g2, 5, none⟩ (.int .i64 0)).setCell ⟨g2, 6, none⟩ (.int .i64 0)) g2 55 7 (ptF xx) := by rw [HXX.out]; exact pt_all (⟨1, 0, 0, 0, (-(v0 : Int)), 0, 0⟩ : PartS) R2.out
 have hx2 := HP.out.kept (row := some g2) hx0 (fun k e => by injection e with e; have := HG2.out; have := HW.out; omega)
 have hx3 := (za (za (za (za (za (za (za G1.out (.inr (Nat.le_of_eq HG2.out.symm)) (p := ⟨g2, 0, none⟩) (.int .u8 1)) (.inr (Nat.le_of_eq HG2.out.symm)) (p := ⟨g2, 1, none⟩) (.int .i64 0)) (.inr (Nat.le_of_eq HG2.out.symm)) (p := ⟨g2, 2, none⟩) (.int .i64 0)) (.inr (Nat.le_of_eq HG2.out.symm)) (p := ⟨g2, 3, none⟩) (.int .i64 0)) (.inr (Nat.le_of_eq HG2.out.symm)) (p := ⟨g2, 4, none⟩) (.int .i64 (-(v0 : Int)))) (.inr (Nat.le_of_eq HG2.out.symm)) (p := ⟨g2, 5, none⟩) (.int .i64 0)) (.inr (Nat.le_of_eq HG2.out.symm)) (p := ⟨g2, 6, none⟩) (.int .i64 0))
 clear hx0
 generalize (((((((X0.setCell ⟨g2, 0, none⟩ (.int .u8 1)).setCell ⟨g2, 1, none⟩ (.int .i64 0)).setCell ⟨g2, 2, none⟩ (.int .i64 0)).setCell ⟨g2, 3, none⟩ (.int .i64 0)).setCell ⟨g2, 4, none⟩ (.int .i64 (-(v0 : Int)))).setCell ⟨g2, 5, none⟩ (.int .i64 0)).setCell ⟨g2, 6, none⟩ (.int .i64 0)) = W99 at hx1 hx2 hx3 ⊢
 refine bodyPost_ret (pt_results rfl _ _ g2 xx rfl hx1) rfl ?_
 have hrel := HRL.out
 rw [← HXX.out] at hrel
 first | exact ⟨xx, m0, f0, rfl, hx2, hrel, hx3⟩ | exact ⟨xx, rfl, m0, f0, hx2, hrel, hx3⟩
set_option maxRecDepth 100000 in
set_option maxHeartbeats 40000000 in
theorem rpart_const_n (h : RS B w gp l none many) (hss : (hd l).s = [99, 111, 110, 115, 116]) (hmi : (hd l.tail).s ≠ [109, 105, 110, 117, 115]) : Calls Try.prog 34 #[.pointer (some ⟨gp, 0, none⟩)] w fun e w' => ∃ x l' b', e = .returned (.agg (ptA x)) ∧ RS B w' gp l' b' many ∧ Rel part l none x l' b' ∧ w.grownBy w' (some gp) := by
 have HMI := Lib.hid hmi
 clear hmi
 have hk1 : (hd l).k = 1 := wordk h.tl.hd_ok (by rw [hss]; decide) (by rw [hss]; decide)
 have HK4 : Hid ((hd l).k ≠ 4) := (h.tl.hd_s (by rw [hss]; decide)).1
 have HK1 := Lib.hid hk1
 have HSS := Lib.hid hss
 clear hss hk1
 have HW := Lib.hid (And.intro h.bw h.bp)
 have hb1 : Below w.heap.size w (w.alloc zZ4) := (Below.refl _ _).alloc (Nat.le_refl _) _
 have h1 := h.below hb1
 have hN1 := rnow_any h1
 obtain ⟨tk, htk⟩ : ∃ tk, tk = hd l := ⟨_, rfl⟩
 rw [← htk] at hN1
 have HN1 := Lib.hid hN1
 have HT := Lib.hid htk
 have HOK : Hid (TokOk tk) := by rw [htk]; exact h.tl.hd_ok
 have HP := Lib.hid h1
 have R2 := Lib.hid (pt_row (x := p0) (heap_alloc_new w zZ4))
 have G1 := Lib.hid (zb hb1 (some gp))
 have hf1 := tok_f1
 have hf0 := tok_f0
 clear h h1 hb1 hN1 htk
 go_enter Try.func34, Try.ntmps34
 go_wp2_with fail
 generalize w.alloc zZ4 = W1 at *
 obtain ⟨g2, hg2⟩ : ∃ g2, g2 = w.heap.size := ⟨_, rfl⟩
 rw [← hg2] at R2 ⊢
 have HG2 := Lib.hid hg2
 have HN2 : Hid (g2 ≠ gp) := by have := HW.out; unfold Hid; omega
 clear hg2
 refine HN1.out.mono ?_
 rintro e Wa ⟨rfl, hb⟩
 clear HN1
 replace HP := Lib.hid (HP.out.below hb)
 replace G1 := Lib.hid (zd G1.out (zb hb (some gp)))
 replace R2 := Lib.hid (ze hb R2.out R2.out.lt)
 clear hb
 have hN2 := rnow_any HP.out
 rw [← HT.out] at hN2
 have HN2x := Lib.hid hN2
 clear hN2
 go_wp2_with fail
 refine HN2x.out.mono ?_
 rintro e Wb ⟨rfl, hb⟩
 clear HN2x
 replace HP := Lib.hid (HP.out.below hb)
 replace G1 := Lib.hid (zd G1.out (zb hb (some gp)))
 replace R2 := Lib.hid (ze hb R2.out R2.out.lt)
 clear hb
 have k1I : ((tk.k : Int) != 1) = false := by rw [HT.out, HK1.out]; rfl
 have q0 : ((mkS tk.s).toList == ([99, 111, 110, 115, 116] : List UInt8)) = true := by rw [show ([99, 111, 110, 115, 116] : List UInt8) = (mkS [99, 111, 110, 115, 116]).toList from (by rw [Lib.toList_data]; rfl), mkS_eq HOK.out.1 (by decide)]; exact decide_eq_true (by rw [HT.out, HSS.out])
 have q1 : ((mkS tk.s).toList == ([99, 109] : List UInt8)) = false := nW [99, 109] HOK.out.1 (by decide) (by rw [HT.out, HSS.out]; decide)
 have q2 : ((mkS tk.s).toList == ([105, 99, 109] : List UInt8)) = false := nW [105, 99, 109] HOK.out.1 (by decide) (by rw [HT.out, HSS.out]; decide)
 have q3 : ((mkS tk.s).toList == ([109, 97, 116, 99, 104] : List UInt8)) = false := nW [109, 97, 116, 99, 104] HOK.out.1 (by decide) (by rw [HT.out, HSS.out]; decide)
 have q4 : ((mkS tk.s).toList == ([97, 118, 103] : List UInt8)) = false := nW [97, 118, 103] HOK.out.1 (by decide) (by rw [HT.out, HSS.out]; decide)
 have q5 : ((mkS tk.s).toList == ([112, 97, 105, 114] : List UInt8)) = false := nW [112, 97, 105, 114] HOK.out.1 (by decide) (by rw [HT.out, HSS.out]; decide)
 have q6 : ((mkS tk.s).toList == ([109, 105, 120] : List UInt8)) = false := nW [109, 105, 120] HOK.out.1 (by decide) (by rw [HT.out, HSS.out]; decide)
 have q7 : ((mkS tk.s).toList == ([105, 115, 115, 101] : List UInt8)) = false := nW [105, 115, 115, 101] HOK.out.1 (by decide) (by rw [HT.out, HSS.out]; decide)
 have q8 : ((mkS tk.s).toList == ([115, 115, 101] : List UInt8)) = false := nW [115, 115, 101] HOK.out.1 (by decide) (by rw [HT.out, HSS.out]; decide)
 have hst := rstep_any HP.out
 rw [if_neg HK4.out] at hst
 have HM := Lib.hid (hst)
 go_wp2_with fail
 refine HM.out.mono ?_
 rintro e W2 ⟨rfl, hp, hgn⟩
 replace G1 := Lib.hid (zd G1.out hgn)
 replace R2 := Lib.hid (zc hgn R2.out HN2.out)
 clear HM HP hgn
 have HP := Lib.hid hp
 clear hp
 clear hst k1I hf0 hf1
 have HI0 := ris_any HP.out ⟨#[109, 105, 110, 117, 115]⟩ [109, 105, 110, 117, 115] rfl (by decide) (by decide)
 rw [decide_eq_false HMI.out] at HI0
 have HI := Lib.hid HI0
 clear HI0
 go_wp2_with fail
 refine HI.out.mono ?_
 rintro e W3 ⟨rfl, hb⟩
 clear HI
 replace HP := Lib.hid (HP.out.below hb)
 replace G1 := Lib.hid (zd G1.out (zb hb (some gp)))
 replace R2 := Lib.hid (ze hb R2.out R2.out.lt)
 clear hb
 have HM := Lib.hid (rn_any HP.out)
 go_wp2_with fail
 refine HM.out.mono ?_
 rintro e X0 ⟨v0, m0, f0, hv0, rfl, hp, hr0, hgn⟩
 replace G1 := Lib.hid (zd G1.out hgn)
 replace R2 := Lib.hid (zc hgn R2.out HN2.out)
 clear HM HP hgn
 have HP := Lib.hid hp
 clear hp
 have HR0 := Lib.hid hr0
 clear hr0
 obtain ⟨xx, hxx⟩ : ∃ xx : PartS, xx = (⟨1, 0, 0, 0, (v0 : Nat), 0, 0⟩ : PartS) := ⟨_, rfl⟩
 have HXX := Lib.hid hxx
 clear hxx
 have HRL : Hid (Rel part l none (⟨1, 0, 0, 0, (v0 : Nat), 0, 0⟩ : PartS) m0 f0) := part_relN (vs := [v0]) (mn := false) (by rw [HSS.out]; rfl : look partL (hd l).s = some 1) (by rw [decide_eq_false HMI.out]; rfl) rfl (rel_nums HR0.out rel_nums0) rfl
 have b0 := R2.out.cell (show 0 < 7 by omega)
 have z0 := R2.out.frozen 0
 have b1 := R2.out.cell (show 1 < 7 by omega)
 have z1 := R2.out.frozen 1
 have b2 := R2.out.cell (show 2 < 7 by omega)
 have z2 := R2.out.frozen 2
 have b3 := R2.out.cell (show 3 < 7 by omega)
 have z3 := R2.out.frozen 3
 have b4 := R2.out.cell (show 4 < 7 by omega)
 have z4 := R2.out.frozen 4
 have b5 := R2.out.cell (show 5 < 7 by omega)
 have z5 := R2.out.frozen 5
 have b6 := R2.out.cell (show 6 < 7 by omega)
 have z6 := R2.out.frozen 6
 dsimp only [ptF, p0] at b0 b1 b2 b3 b4 b5 b6
 go_wp2_with fail
 (try simp only [Exit.inBlock, Exit.then])
 have hx0 := (za (za (za (za (za (za (za (zf X0 (some g2)) (.inl rfl) (p := ⟨g2, 0, none⟩) (.int .u8 1)) (.inl rfl) (p := ⟨g2, 1, none⟩) (.int .i64 0)) (.inl rfl) (p := ⟨g2, 2, none⟩) (.int .i64 0)) (.inl rfl) (p := ⟨g2, 3, none⟩) (.int .i64 0)) (.inl rfl) (p := ⟨g2, 4, none⟩) (.int .i64 (v0 : Nat))) (.inl rfl) (p := ⟨g2, 5, none⟩) (.int .i64 0)) (.inl rfl) (p := ⟨g2, 6, none⟩) (.int .i64 0))
 have hx1 : World.rowIs (((((((X0.setCell ⟨g2, 0, none⟩ (.int .u8 1)).setCell ⟨g2, 1, none⟩ (.int .i64 0)).setCell ⟨g2, 2, none⟩ (.int .i64 0)).setCell ⟨g2, 3, none⟩ (.int .i64 0)).setCell ⟨g2, 4, none⟩ (.int .i64 (v0 : Nat))).setCell ⟨g2, 5, none⟩ (.int .i64 0)).setCell ⟨g2, 6, none⟩ (.int .i64 0)) g2 55 7 (ptF xx) := by rw [HXX.out]; exact pt_all (⟨1, 0, 0, 0, (v0 : Nat), 0, 0⟩ : PartS) R2.out
 have hx2 := HP.out.kept (row := some g2) hx0 (fun k e => by injection e with e; have := HG2.out; have := HW.out; omega)
 have hx3 := (za (za (za (za (za (za (za G1.out (.inr (Nat.le_of_eq HG2.out.symm)) (p := ⟨g2, 0, none⟩) (.int .u8 1)) (.inr (Nat.le_of_eq HG2.out.symm)) (p := ⟨g2, 1, none⟩) (.int .i64 0)) (.inr (Nat.le_of_eq HG2.out.symm)) (p := ⟨g2, 2, none⟩) (.int .i64 0)) (.inr (Nat.le_of_eq HG2.out.symm)) (p := ⟨g2, 3, none⟩) (.int .i64 0)) (.inr (Nat.le_of_eq HG2.out.symm)) (p := ⟨g2, 4, none⟩) (.int .i64 (v0 : Nat))) (.inr (Nat.le_of_eq HG2.out.symm)) (p := ⟨g2, 5, none⟩) (.int .i64 0)) (.inr (Nat.le_of_eq HG2.out.symm)) (p := ⟨g2, 6, none⟩) (.int .i64 0))
 clear hx0
 generalize (((((((X0.setCell ⟨g2, 0, none⟩ (.int .u8 1)).setCell ⟨g2, 1, none⟩ (.int .i64 0)).setCell ⟨g2, 2, none⟩ (.int .i64 0)).setCell ⟨g2, 3, none⟩ (.int .i64 0)).setCell ⟨g2, 4, none⟩ (.int .i64 (v0 : Nat))).setCell ⟨g2, 5, none⟩ (.int .i64 0)).setCell ⟨g2, 6, none⟩ (.int .i64 0)) = W99 at hx1 hx2 hx3 ⊢
 refine bodyPost_ret (pt_results rfl _ _ g2 xx rfl hx1) rfl ?_
 have hrel := HRL.out
 rw [← HXX.out] at hrel
 first | exact ⟨xx, m0, f0, rfl, hx2, hrel, hx3⟩ | exact ⟨xx, rfl, m0, f0, hx2, hrel, hx3⟩
set_option maxRecDepth 100000 in
set_option maxHeartbeats 40000000 in
theorem rpart_cm (h : RS B w gp l none many) (hss : (hd l).s = [99, 109]) : Calls Try.prog 34 #[.pointer (some ⟨gp, 0, none⟩)] w fun e w' => ∃ x l' b', e = .returned (.agg (ptA x)) ∧ RS B w' gp l' b' many ∧ Rel part l none x l' b' ∧ w.grownBy w' (some gp) := by
 have hk1 : (hd l).k = 1 := wordk h.tl.hd_ok (by rw [hss]; decide) (by rw [hss]; decide)
 have HK4 : Hid ((hd l).k ≠ 4) := (h.tl.hd_s (by rw [hss]; decide)).1
 have HK1 := Lib.hid hk1
 have HSS := Lib.hid hss
 clear hss hk1
 have HW := Lib.hid (And.intro h.bw h.bp)
 have hb1 : Below w.heap.size w (w.alloc zZ4) := (Below.refl _ _).alloc (Nat.le_refl _) _
 have h1 := h.below hb1
 have hN1 := rnow_any h1
 obtain ⟨tk, htk⟩ : ∃ tk, tk = hd l := ⟨_, rfl⟩
 rw [← htk] at hN1
 have HN1 := Lib.hid hN1
 have HT := Lib.hid htk
 have HOK : Hid (TokOk tk) := by rw [htk]; exact h.tl.hd_ok
 have HP := Lib.hid h1
 have R2 := Lib.hid (pt_row (x := p0) (heap_alloc_new w zZ4))
 have G1 := Lib.hid (zb hb1 (some gp))
 have hf1 := tok_f1
 have hf0 := tok_f0
 clear h h1 hb1 hN1 htk
 go_enter Try.func34, Try.ntmps34
 go_wp2_with fail
 generalize w.alloc zZ4 = W1 at *
 obtain ⟨g2, hg2⟩ : ∃ g2, g2 = w.heap.size := ⟨_, rfl⟩
 rw [← hg2] at R2 ⊢
 have HG2 := Lib.hid hg2
 have HN2 : Hid (g2 ≠ gp) := by have := HW.out; unfold Hid; omega
 clear hg2
 refine HN1.out.mono ?_
 rintro e Wa ⟨rfl, hb⟩
 clear HN1
 replace HP := Lib.hid (HP.out.below hb)
 replace G1 := Lib.hid (zd G1.out (zb hb (some gp)))
 replace R2 := Lib.hid (ze hb R2.out R2.out.lt)
 clear hb
 have hN2 := rnow_any HP.out
 rw [← HT.out] at hN2
 have HN2x := Lib.hid hN2
 clear hN2
 go_wp2_with fail
 refine HN2x.out.mono ?_
 rintro e Wb ⟨rfl, hb⟩
 clear HN2x
 replace HP := Lib.hid (HP.out.below hb)
 replace G1 := Lib.hid (zd G1.out (zb hb (some gp)))
 replace R2 := Lib.hid (ze hb R2.out R2.out.lt)
 clear hb
 have k1I : ((tk.k : Int) != 1) = false := by rw [HT.out, HK1.out]; rfl
 have q0 : ((mkS tk.s).toList == ([99, 111, 110, 115, 116] : List UInt8)) = false := nW [99, 111, 110, 115, 116] HOK.out.1 (by decide) (by rw [HT.out, HSS.out]; decide)
 have q1 : ((mkS tk.s).toList == ([99, 109] : List UInt8)) = true := by rw [show ([99, 109] : List UInt8) = (mkS [99, 109]).toList from (by rw [Lib.toList_data]; rfl), mkS_eq HOK.out.1 (by decide)]; exact decide_eq_true (by rw [HT.out, HSS.out])
 have q2 : ((mkS tk.s).toList == ([105, 99, 109] : List UInt8)) = false := nW [105, 99, 109] HOK.out.1 (by decide) (by rw [HT.out, HSS.out]; decide)
 have q3 : ((mkS tk.s).toList == ([109, 97, 116, 99, 104] : List UInt8)) = false := nW [109, 97, 116, 99, 104] HOK.out.1 (by decide) (by rw [HT.out, HSS.out]; decide)
 have q4 : ((mkS tk.s).toList == ([97, 118, 103] : List UInt8)) = false := nW [97, 118, 103] HOK.out.1 (by decide) (by rw [HT.out, HSS.out]; decide)
 have q5 : ((mkS tk.s).toList == ([112, 97, 105, 114] : List UInt8)) = false := nW [112, 97, 105, 114] HOK.out.1 (by decide) (by rw [HT.out, HSS.out]; decide)
 have q6 : ((mkS tk.s).toList == ([109, 105, 120] : List UInt8)) = false := nW [109, 105, 120] HOK.out.1 (by decide) (by rw [HT.out, HSS.out]; decide)
 have q7 : ((mkS tk.s).toList == ([105, 115, 115, 101] : List UInt8)) = false := nW [105, 115, 115, 101] HOK.out.1 (by decide) (by rw [HT.out, HSS.out]; decide)
 have q8 : ((mkS tk.s).toList == ([115, 115, 101] : List UInt8)) = false := nW [115, 115, 101] HOK.out.1 (by decide) (by rw [HT.out, HSS.out]; decide)
 have hst := rstep_any HP.out
 rw [if_neg HK4.out] at hst
 have HM := Lib.hid (hst)
 go_wp2_with fail
 refine HM.out.mono ?_
 rintro e W2 ⟨rfl, hp, hgn⟩
 replace G1 := Lib.hid (zd G1.out hgn)
 replace R2 := Lib.hid (zc hgn R2.out HN2.out)
 clear HM HP hgn
 have HP := Lib.hid hp
 clear hp
 clear hst k1I hf0 hf1
 have HM := Lib.hid (rn_any HP.out)
 go_wp2_with fail
 refine HM.out.mono ?_
 rintro e X0 ⟨v0, m0, f0, hv0, rfl, hp, hr0, hgn⟩
 replace G1 := Lib.hid (zd G1.out hgn)
 replace R2 := Lib.hid (zc hgn R2.out HN2.out)
 clear HM HP hgn
 have HP := Lib.hid hp
 clear hp
 have HR0 := Lib.hid hr0
 clear hr0
 have HM := Lib.hid (rn_any HP.out)
 go_wp2_with fail
 refine HM.out.mono ?_
 rintro e X1 ⟨v1, m1, f1, hv1, rfl, hp, hr1, hgn⟩
 replace G1 := Lib.hid (zd G1.out hgn)
 replace R2 := Lib.hid (zc hgn R2.out HN2.out)
 clear HM HP hgn
 have HP := Lib.hid hp
 clear hp
 have HR1 := Lib.hid hr1
 clear hr1
 obtain ⟨xx, hxx⟩ : ∃ xx : PartS, xx = (⟨2, (v0 : Nat), 0, 0, 0, 0, (v1 : Nat)⟩ : PartS) := ⟨_, rfl⟩
 have HXX := Lib.hid hxx
 clear hxx
 have HRL : Hid (Rel part l none (⟨2, (v0 : Nat), 0, 0, 0, 0, (v1 : Nat)⟩ : PartS) m1 f1) := part_relN (vs := [v0, v1]) (mn := false) (by rw [HSS.out]; rfl : look partL (hd l).s = some 2) (by rfl) rfl (rel_nums HR0.out (rel_nums HR1.out rel_nums0)) rfl
 have b0 := R2.out.cell (show 0 < 7 by omega)
 have z0 := R2.out.frozen 0
 have b1 := R2.out.cell (show 1 < 7 by omega)
 have z1 := R2.out.frozen 1
 have b2 := R2.out.cell (show 2 < 7 by omega)
 have z2 := R2.out.frozen 2
 have b3 := R2.out.cell (show 3 < 7 by omega)
 have z3 := R2.out.frozen 3
 have b4 := R2.out.cell (show 4 < 7 by omega)
 have z4 := R2.out.frozen 4
 have b5 := R2.out.cell (show 5 < 7 by omega)
 have z5 := R2.out.frozen 5
 have b6 := R2.out.cell (show 6 < 7 by omega)
 have z6 := R2.out.frozen 6
 dsimp only [ptF, p0] at b0 b1 b2 b3 b4 b5 b6
 go_wp2_with fail
 (try simp only [Exit.inBlock, Exit.then])
 have hx0 := (za (za (za (za (za (za (za (zf X1 (some g2)) (.inl rfl) (p := ⟨g2, 0, none⟩) (.int .u8 2)) (.inl rfl) (p := ⟨g2, 1, none⟩) (.int .i64 (v0 : Nat))) (.inl rfl) (p := ⟨g2, 2, none⟩) (.int .i64 0)) (.inl rfl) (p := ⟨g2, 3, none⟩) (.int .i64 0)) (.inl rfl) (p := ⟨g2, 4, none⟩) (.int .i64 0)) (.inl rfl) (p := ⟨g2, 5, none⟩) (.int .i64 0)) (.inl rfl) (p := ⟨g2, 6, none⟩) (.int .i64 (v1 : Nat)))
 have hx1 : World.rowIs (((((((X1.setCell ⟨g2, 0, none⟩ (.int .u8 2)).setCell ⟨g2, 1, none⟩ (.int .i64 (v0 : Nat))).setCell ⟨g2, 2, none⟩ (.int .i64 0)).setCell ⟨g2, 3, none⟩ (.int .i64 0)).setCell ⟨g2, 4, none⟩ (.int .i64 0)).setCell ⟨g2, 5, none⟩ (.int .i64 0)).setCell ⟨g2, 6, none⟩ (.int .i64 (v1 : Nat))) g2 55 7 (ptF xx) := by rw [HXX.out]; exact pt_all (⟨2, (v0 : Nat), 0, 0, 0, 0, (v1 : Nat)⟩ : PartS) R2.out
 have hx2 := HP.out.kept (row := some g2) hx0 (fun k e => by injection e with e; have := HG2.out; have := HW.out; omega)
 have hx3 := (za (za (za (za (za (za (za G1.out (.inr (Nat.le_of_eq HG2.out.symm)) (p := ⟨g2, 0, none⟩) (.int .u8 2)) (.inr (Nat.le_of_eq HG2.out.symm)) (p := ⟨g2, 1, none⟩) (.int .i64 (v0 : Nat))) (.inr (Nat.le_of_eq HG2.out.symm)) (p := ⟨g2, 2, none⟩) (.int .i64 0)) (.inr (Nat.le_of_eq HG2.out.symm)) (p := ⟨g2, 3, none⟩) (.int .i64 0)) (.inr (Nat.le_of_eq HG2.out.symm)) (p := ⟨g2, 4, none⟩) (.int .i64 0)) (.inr (Nat.le_of_eq HG2.out.symm)) (p := ⟨g2, 5, none⟩) (.int .i64 0)) (.inr (Nat.le_of_eq HG2.out.symm)) (p := ⟨g2, 6, none⟩) (.int .i64 (v1 : Nat)))
 clear hx0
 generalize (((((((X1.setCell ⟨g2, 0, none⟩ (.int .u8 2)).setCell ⟨g2, 1, none⟩ (.int .i64 (v0 : Nat))).setCell ⟨g2, 2, none⟩ (.int .i64 0)).setCell ⟨g2, 3, none⟩ (.int .i64 0)).setCell ⟨g2, 4, none⟩ (.int .i64 0)).setCell ⟨g2, 5, none⟩ (.int .i64 0)).setCell ⟨g2, 6, none⟩ (.int .i64 (v1 : Nat))) = W99 at hx1 hx2 hx3 ⊢
 refine bodyPost_ret (pt_results rfl _ _ g2 xx rfl hx1) rfl ?_
 have hrel := HRL.out
 rw [← HXX.out] at hrel
 first | exact ⟨xx, m1, f1, rfl, hx2, hrel, hx3⟩ | exact ⟨xx, rfl, m1, f1, hx2, hrel, hx3⟩
set_option maxRecDepth 100000 in
set_option maxHeartbeats 40000000 in
theorem rpart_icm (h : RS B w gp l none many) (hss : (hd l).s = [105, 99, 109]) : Calls Try.prog 34 #[.pointer (some ⟨gp, 0, none⟩)] w fun e w' => ∃ x l' b', e = .returned (.agg (ptA x)) ∧ RS B w' gp l' b' many ∧ Rel part l none x l' b' ∧ w.grownBy w' (some gp) := by
 have hk1 : (hd l).k = 1 := wordk h.tl.hd_ok (by rw [hss]; decide) (by rw [hss]; decide)
 have HK4 : Hid ((hd l).k ≠ 4) := (h.tl.hd_s (by rw [hss]; decide)).1
 have HK1 := Lib.hid hk1
 have HSS := Lib.hid hss
 clear hss hk1
 have HW := Lib.hid (And.intro h.bw h.bp)
 have hb1 : Below w.heap.size w (w.alloc zZ4) := (Below.refl _ _).alloc (Nat.le_refl _) _
 have h1 := h.below hb1
 have hN1 := rnow_any h1
 obtain ⟨tk, htk⟩ : ∃ tk, tk = hd l := ⟨_, rfl⟩
 rw [← htk] at hN1
 have HN1 := Lib.hid hN1
 have HT := Lib.hid htk
 have HOK : Hid (TokOk tk) := by rw [htk]; exact h.tl.hd_ok
 have HP := Lib.hid h1
 have R2 := Lib.hid (pt_row (x := p0) (heap_alloc_new w zZ4))
 have G1 := Lib.hid (zb hb1 (some gp))
 have hf1 := tok_f1
 have hf0 := tok_f0
 clear h h1 hb1 hN1 htk
 go_enter Try.func34, Try.ntmps34
 go_wp2_with fail
 generalize w.alloc zZ4 = W1 at *
 obtain ⟨g2, hg2⟩ : ∃ g2, g2 = w.heap.size := ⟨_, rfl⟩
 rw [← hg2] at R2 ⊢
 have HG2 := Lib.hid hg2
 have HN2 : Hid (g2 ≠ gp) := by have := HW.out; unfold Hid; omega
 clear hg2
 refine HN1.out.mono ?_
 rintro e Wa ⟨rfl, hb⟩
 clear HN1
 replace HP := Lib.hid (HP.out.below hb)
 replace G1 := Lib.hid (zd G1.out (zb hb (some gp)))
 replace R2 := Lib.hid (ze hb R2.out R2.out.lt)
 clear hb
 have hN2 := rnow_any HP.out
 rw [← HT.out] at hN2
 have HN2x := Lib.hid hN2
 clear hN2
 go_wp2_with fail
 refine HN2x.out.mono ?_
 rintro e Wb ⟨rfl, hb⟩
 clear HN2x
 replace HP := Lib.hid (HP.out.below hb)
 replace G1 := Lib.hid (zd G1.out (zb hb (some gp)))
 replace R2 := Lib.hid (ze hb R2.out R2.out.lt)
 clear hb
 have k1I : ((tk.k : Int) != 1) = false := by rw [HT.out, HK1.out]; rfl
 have q0 : ((mkS tk.s).toList == ([99, 111, 110, 115, 116] : List UInt8)) = false := nW [99, 111, 110, 115, 116] HOK.out.1 (by decide) (by rw [HT.out, HSS.out]; decide)
 have q1 : ((mkS tk.s).toList == ([99, 109] : List UInt8)) = false := nW [99, 109] HOK.out.1 (by decide) (by rw [HT.out, HSS.out]; decide)
 have q2 : ((mkS tk.s).toList == ([105, 99, 109] : List UInt8)) = true := by rw [show ([105, 99, 109] : List UInt8) = (mkS [105, 99, 109]).toList from (by rw [Lib.toList_data]; rfl), mkS_eq HOK.out.1 (by decide)]; exact decide_eq_true (by rw [HT.out, HSS.out])
 have q3 : ((mkS tk.s).toList == ([109, 97, 116, 99, 104] : List UInt8)) = false := nW [109, 97, 116, 99, 104] HOK.out.1 (by decide) (by rw [HT.out, HSS.out]; decide)
 have q4 : ((mkS tk.s).toList == ([97, 118, 103] : List UInt8)) = false := nW [97, 118, 103] HOK.out.1 (by decide) (by rw [HT.out, HSS.out]; decide)
 have q5 : ((mkS tk.s).toList == ([112, 97, 105, 114] : List UInt8)) = false := nW [112, 97, 105, 114] HOK.out.1 (by decide) (by rw [HT.out, HSS.out]; decide)
 have q6 : ((mkS tk.s).toList == ([109, 105, 120] : List UInt8)) = false := nW [109, 105, 120] HOK.out.1 (by decide) (by rw [HT.out, HSS.out]; decide)
 have q7 : ((mkS tk.s).toList == ([105, 115, 115, 101] : List UInt8)) = false := nW [105, 115, 115, 101] HOK.out.1 (by decide) (by rw [HT.out, HSS.out]; decide)
 have q8 : ((mkS tk.s).toList == ([115, 115, 101] : List UInt8)) = false := nW [115, 115, 101] HOK.out.1 (by decide) (by rw [HT.out, HSS.out]; decide)
 have hst := rstep_any HP.out
 rw [if_neg HK4.out] at hst
 have HM := Lib.hid (hst)
 go_wp2_with fail
 refine HM.out.mono ?_
 rintro e W2 ⟨rfl, hp, hgn⟩
 replace G1 := Lib.hid (zd G1.out hgn)
 replace R2 := Lib.hid (zc hgn R2.out HN2.out)
 clear HM HP hgn
 have HP := Lib.hid hp
 clear hp
 clear hst k1I hf0 hf1
 have HM := Lib.hid (rn_any HP.out)
 go_wp2_with fail
 refine HM.out.mono ?_
 rintro e X0 ⟨v0, m0, f0, hv0, rfl, hp, hr0, hgn⟩
 replace G1 := Lib.hid (zd G1.out hgn)
 replace R2 := Lib.hid (zc hgn R2.out HN2.out)
 clear HM HP hgn
 have HP := Lib.hid hp
 clear hp
 have HR0 := Lib.hid hr0
 clear hr0
 obtain ⟨xx, hxx⟩ : ∃ xx : PartS, xx = (⟨3, (v0 : Nat), 0, 0, 0, 0, 0⟩ : PartS) := ⟨_, rfl⟩
 have HXX := Lib.hid hxx
 clear hxx
 have HRL : Hid (Rel part l none (⟨3, (v0 : Nat), 0, 0, 0, 0, 0⟩ : PartS) m0 f0) := part_relN (vs := [v0]) (mn := false) (by rw [HSS.out]; rfl : look partL (hd l).s = some 3) (by rfl) rfl (rel_nums HR0.out rel_nums0) rfl
 have b0 := R2.out.cell (show 0 < 7 by omega)
 have z0 := R2.out.frozen 0
 have b1 := R2.out.cell (show 1 < 7 by omega)
 have z1 := R2.out.frozen 1
 have b2 := R2.out.cell (show 2 < 7 by omega)
 have z2 := R2.out.frozen 2
 have b3 := R2.out.cell (show 3 < 7 by omega)
 have z3 := R2.out.frozen 3
 have b4 := R2.out.cell (show 4 < 7 by omega)
 have z4 := R2.out.frozen 4
 have b5 := R2.out.cell (show 5 < 7 by omega)
 have z5 := R2.out.frozen 5
 have b6 := R2.out.cell (show 6 < 7 by omega)
 have z6 := R2.out.frozen 6
 dsimp only [ptF, p0] at b0 b1 b2 b3 b4 b5 b6
 go_wp2_with fail
 (try simp only [Exit.inBlock, Exit.then])
 have hx0 := (za (za (za (za (za (za (za (zf X0 (some g2)) (.inl rfl) (p := ⟨g2, 0, none⟩) (.int .u8 3)) (.inl rfl) (p := ⟨g2, 1, none⟩) (.int .i64 (v0 : Nat))) (.inl rfl) (p := ⟨g2, 2, none⟩) (.int .i64 0)) (.inl rfl) (p := ⟨g2, 3, none⟩) (.int .i64 0)) (.inl rfl) (p := ⟨g2, 4, none⟩) (.int .i64 0)) (.inl rfl) (p := ⟨g2, 5, none⟩) (.int .i64 0)) (.inl rfl) (p := ⟨g2, 6, none⟩) (.int .i64 0))
 have hx1 : World.rowIs (((((((X0.setCell ⟨g2, 0, none⟩ (.int .u8 3)).setCell ⟨g2, 1, none⟩ (.int .i64 (v0 : Nat))).setCell ⟨g2, 2, none⟩ (.int .i64 0)).setCell ⟨g2, 3, none⟩ (.int .i64 0)).setCell ⟨g2, 4, none⟩ (.int .i64 0)).setCell ⟨g2, 5, none⟩ (.int .i64 0)).setCell ⟨g2, 6, none⟩ (.int .i64 0)) g2 55 7 (ptF xx) := by rw [HXX.out]; exact pt_all (⟨3, (v0 : Nat), 0, 0, 0, 0, 0⟩ : PartS) R2.out
 have hx2 := HP.out.kept (row := some g2) hx0 (fun k e => by injection e with e; have := HG2.out; have := HW.out; omega)
 have hx3 := (za (za (za (za (za (za (za G1.out (.inr (Nat.le_of_eq HG2.out.symm)) (p := ⟨g2, 0, none⟩) (.int .u8 3)) (.inr (Nat.le_of_eq HG2.out.symm)) (p := ⟨g2, 1, none⟩) (.int .i64 (v0 : Nat))) (.inr (Nat.le_of_eq HG2.out.symm)) (p := ⟨g2, 2, none⟩) (.int .i64 0)) (.inr (Nat.le_of_eq HG2.out.symm)) (p := ⟨g2, 3, none⟩) (.int .i64 0)) (.inr (Nat.le_of_eq HG2.out.symm)) (p := ⟨g2, 4, none⟩) (.int .i64 0)) (.inr (Nat.le_of_eq HG2.out.symm)) (p := ⟨g2, 5, none⟩) (.int .i64 0)) (.inr (Nat.le_of_eq HG2.out.symm)) (p := ⟨g2, 6, none⟩) (.int .i64 0))
 clear hx0
 generalize (((((((X0.setCell ⟨g2, 0, none⟩ (.int .u8 3)).setCell ⟨g2, 1, none⟩ (.int .i64 (v0 : Nat))).setCell ⟨g2, 2, none⟩ (.int .i64 0)).setCell ⟨g2, 3, none⟩ (.int .i64 0)).setCell ⟨g2, 4, none⟩ (.int .i64 0)).setCell ⟨g2, 5, none⟩ (.int .i64 0)).setCell ⟨g2, 6, none⟩ (.int .i64 0)) = W99 at hx1 hx2 hx3 ⊢
 refine bodyPost_ret (pt_results rfl _ _ g2 xx rfl hx1) rfl ?_
 have hrel := HRL.out
 rw [← HXX.out] at hrel
 first | exact ⟨xx, m0, f0, rfl, hx2, hrel, hx3⟩ | exact ⟨xx, rfl, m0, f0, hx2, hrel, hx3⟩
set_option maxRecDepth 100000 in
set_option maxHeartbeats 40000000 in
theorem rpart_match (h : RS B w gp l none many) (hss : (hd l).s = [109, 97, 116, 99, 104]) : Calls Try.prog 34 #[.pointer (some ⟨gp, 0, none⟩)] w fun e w' => ∃ x l' b', e = .returned (.agg (ptA x)) ∧ RS B w' gp l' b' many ∧ Rel part l none x l' b' ∧ w.grownBy w' (some gp) := by
 have hk1 : (hd l).k = 1 := wordk h.tl.hd_ok (by rw [hss]; decide) (by rw [hss]; decide)
 have HK4 : Hid ((hd l).k ≠ 4) := (h.tl.hd_s (by rw [hss]; decide)).1
 have HK1 := Lib.hid hk1
 have HSS := Lib.hid hss
 clear hss hk1
 have HW := Lib.hid (And.intro h.bw h.bp)
 have hb1 : Below w.heap.size w (w.alloc zZ4) := (Below.refl _ _).alloc (Nat.le_refl _) _
 have h1 := h.below hb1
 have hN1 := rnow_any h1
 obtain ⟨tk, htk⟩ : ∃ tk, tk = hd l := ⟨_, rfl⟩
 rw [← htk] at hN1
 have HN1 := Lib.hid hN1
 have HT := Lib.hid htk
 have HOK : Hid (TokOk tk) := by rw [htk]; exact h.tl.hd_ok
 have HP := Lib.hid h1
 have R2 := Lib.hid (pt_row (x := p0) (heap_alloc_new w zZ4))
 have G1 := Lib.hid (zb hb1 (some gp))
 have hf1 := tok_f1
 have hf0 := tok_f0
 clear h h1 hb1 hN1 htk
 go_enter Try.func34, Try.ntmps34
 go_wp2_with fail
 generalize w.alloc zZ4 = W1 at *
 obtain ⟨g2, hg2⟩ : ∃ g2, g2 = w.heap.size := ⟨_, rfl⟩
 rw [← hg2] at R2 ⊢
 have HG2 := Lib.hid hg2
 have HN2 : Hid (g2 ≠ gp) := by have := HW.out; unfold Hid; omega
 clear hg2
 refine HN1.out.mono ?_
 rintro e Wa ⟨rfl, hb⟩
 clear HN1
 replace HP := Lib.hid (HP.out.below hb)
 replace G1 := Lib.hid (zd G1.out (zb hb (some gp)))
 replace R2 := Lib.hid (ze hb R2.out R2.out.lt)
 clear hb
 have hN2 := rnow_any HP.out
 rw [← HT.out] at hN2
 have HN2x := Lib.hid hN2
 clear hN2
 go_wp2_with fail
 refine HN2x.out.mono ?_
 rintro e Wb ⟨rfl, hb⟩
 clear HN2x
 replace HP := Lib.hid (HP.out.below hb)
 replace G1 := Lib.hid (zd G1.out (zb hb (some gp)))
 replace R2 := Lib.hid (ze hb R2.out R2.out.lt)
 clear hb
 have k1I : ((tk.k : Int) != 1) = false := by rw [HT.out, HK1.out]; rfl
 have q0 : ((mkS tk.s).toList == ([99, 111, 110, 115, 116] : List UInt8)) = false := nW [99, 111, 110, 115, 116] HOK.out.1 (by decide) (by rw [HT.out, HSS.out]; decide)
 have q1 : ((mkS tk.s).toList == ([99, 109] : List UInt8)) = false := nW [99, 109] HOK.out.1 (by decide) (by rw [HT.out, HSS.out]; decide)
 have q2 : ((mkS tk.s).toList == ([105, 99, 109] : List UInt8)) = false := nW [105, 99, 109] HOK.out.1 (by decide) (by rw [HT.out, HSS.out]; decide)
 have q3 : ((mkS tk.s).toList == ([109, 97, 116, 99, 104] : List UInt8)) = true := by rw [show ([109, 97, 116, 99, 104] : List UInt8) = (mkS [109, 97, 116, 99, 104]).toList from (by rw [Lib.toList_data]; rfl), mkS_eq HOK.out.1 (by decide)]; exact decide_eq_true (by rw [HT.out, HSS.out])
 have q4 : ((mkS tk.s).toList == ([97, 118, 103] : List UInt8)) = false := nW [97, 118, 103] HOK.out.1 (by decide) (by rw [HT.out, HSS.out]; decide)
 have q5 : ((mkS tk.s).toList == ([112, 97, 105, 114] : List UInt8)) = false := nW [112, 97, 105, 114] HOK.out.1 (by decide) (by rw [HT.out, HSS.out]; decide)
 have q6 : ((mkS tk.s).toList == ([109, 105, 120] : List UInt8)) = false := nW [109, 105, 120] HOK.out.1 (by decide) (by rw [HT.out, HSS.out]; decide)
 have q7 : ((mkS tk.s).toList == ([105, 115, 115, 101] : List UInt8)) = false := nW [105, 115, 115, 101] HOK.out.1 (by decide) (by rw [HT.out, HSS.out]; decide)
 have q8 : ((mkS tk.s).toList == ([115, 115, 101] : List UInt8)) = false := nW [115, 115, 101] HOK.out.1 (by decide) (by rw [HT.out, HSS.out]; decide)
 have hst := rstep_any HP.out
 rw [if_neg HK4.out] at hst
 have HM := Lib.hid (hst)
 go_wp2_with fail
 refine HM.out.mono ?_
 rintro e W2 ⟨rfl, hp, hgn⟩
 replace G1 := Lib.hid (zd G1.out hgn)
 replace R2 := Lib.hid (zc hgn R2.out HN2.out)
 clear HM HP hgn
 have HP := Lib.hid hp
 clear hp
 clear hst k1I hf0 hf1
 have HM := Lib.hid (rn_any HP.out)
 go_wp2_with fail
 refine HM.out.mono ?_
 rintro e X0 ⟨v0, m0, f0, hv0, rfl, hp, hr0, hgn⟩
 replace G1 := Lib.hid (zd G1.out hgn)
 replace R2 := Lib.hid (zc hgn R2.out HN2.out)
 clear HM HP hgn
 have HP := Lib.hid hp
 clear hp
 have HR0 := Lib.hid hr0
 clear hr0
 obtain ⟨xx, hxx⟩ : ∃ xx : PartS, xx = (⟨4, (v0 : Nat), 0, 0, 0, 0, 0⟩ : PartS) := ⟨_, rfl⟩
 have HXX := Lib.hid hxx
 clear hxx
 have HRL : Hid (Rel part l none (⟨4, (v0 : Nat), 0, 0, 0, 0, 0⟩ : PartS) m0 f0) := part_relN (vs := [v0]) (mn := false) (by rw [HSS.out]; rfl : look partL (hd l).s = some 4) (by rfl) rfl (rel_nums HR0.out rel_nums0) rfl
 have b0 := R2.out.cell (show 0 < 7 by omega)
 have z0 := R2.out.frozen 0
 have b1 := R2.out.cell (show 1 < 7 by omega)
 have z1 := R2.out.frozen 1
 have b2 := R2.out.cell (show 2 < 7 by omega)
 have z2 := R2.out.frozen 2
 have b3 := R2.out.cell (show 3 < 7 by omega)
 have z3 := R2.out.frozen 3
 have b4 := R2.out.cell (show 4 < 7 by omega)
 have z4 := R2.out.frozen 4
 have b5 := R2.out.cell (show 5 < 7 by omega)
 have z5 := R2.out.frozen 5
 have b6 := R2.out.cell (show 6 < 7 by omega)
 have z6 := R2.out.frozen 6
 dsimp only [ptF, p0] at b0 b1 b2 b3 b4 b5 b6
 go_wp2_with fail
 (try simp only [Exit.inBlock, Exit.then])
 have hx0 := (za (za (za (za (za (za (za (zf X0 (some g2)) (.inl rfl) (p := ⟨g2, 0, none⟩) (.int .u8 4)) (.inl rfl) (p := ⟨g2, 1, none⟩) (.int .i64 (v0 : Nat))) (.inl rfl) (p := ⟨g2, 2, none⟩) (.int .i64 0)) (.inl rfl) (p := ⟨g2, 3, none⟩) (.int .i64 0)) (.inl rfl) (p := ⟨g2, 4, none⟩) (.int .i64 0)) (.inl rfl) (p := ⟨g2, 5, none⟩) (.int .i64 0)) (.inl rfl) (p := ⟨g2, 6, none⟩) (.int .i64 0))
 have hx1 : World.rowIs (((((((X0.setCell ⟨g2, 0, none⟩ (.int .u8 4)).setCell ⟨g2, 1, none⟩ (.int .i64 (v0 : Nat))).setCell ⟨g2, 2, none⟩ (.int .i64 0)).setCell ⟨g2, 3, none⟩ (.int .i64 0)).setCell ⟨g2, 4, none⟩ (.int .i64 0)).setCell ⟨g2, 5, none⟩ (.int .i64 0)).setCell ⟨g2, 6, none⟩ (.int .i64 0)) g2 55 7 (ptF xx) := by rw [HXX.out]; exact pt_all (⟨4, (v0 : Nat), 0, 0, 0, 0, 0⟩ : PartS) R2.out
 have hx2 := HP.out.kept (row := some g2) hx0 (fun k e => by injection e with e; have := HG2.out; have := HW.out; omega)
 have hx3 := (za (za (za (za (za (za (za G1.out (.inr (Nat.le_of_eq HG2.out.symm)) (p := ⟨g2, 0, none⟩) (.int .u8 4)) (.inr (Nat.le_of_eq HG2.out.symm)) (p := ⟨g2, 1, none⟩) (.int .i64 (v0 : Nat))) (.inr (Nat.le_of_eq HG2.out.symm)) (p := ⟨g2, 2, none⟩) (.int .i64 0)) (.inr (Nat.le_of_eq HG2.out.symm)) (p := ⟨g2, 3, none⟩) (.int .i64 0)) (.inr (Nat.le_of_eq HG2.out.symm)) (p := ⟨g2, 4, none⟩) (.int .i64 0)) (.inr (Nat.le_of_eq HG2.out.symm)) (p := ⟨g2, 5, none⟩) (.int .i64 0)) (.inr (Nat.le_of_eq HG2.out.symm)) (p := ⟨g2, 6, none⟩) (.int .i64 0))
 clear hx0
 generalize (((((((X0.setCell ⟨g2, 0, none⟩ (.int .u8 4)).setCell ⟨g2, 1, none⟩ (.int .i64 (v0 : Nat))).setCell ⟨g2, 2, none⟩ (.int .i64 0)).setCell ⟨g2, 3, none⟩ (.int .i64 0)).setCell ⟨g2, 4, none⟩ (.int .i64 0)).setCell ⟨g2, 5, none⟩ (.int .i64 0)).setCell ⟨g2, 6, none⟩ (.int .i64 0)) = W99 at hx1 hx2 hx3 ⊢
 refine bodyPost_ret (pt_results rfl _ _ g2 xx rfl hx1) rfl ?_
 have hrel := HRL.out
 rw [← HXX.out] at hrel
 first | exact ⟨xx, m0, f0, rfl, hx2, hrel, hx3⟩ | exact ⟨xx, rfl, m0, f0, hx2, hrel, hx3⟩
set_option maxRecDepth 100000 in
set_option maxHeartbeats 40000000 in
theorem rpart_avg (h : RS B w gp l none many) (hss : (hd l).s = [97, 118, 103]) : Calls Try.prog 34 #[.pointer (some ⟨gp, 0, none⟩)] w fun e w' => ∃ x l' b', e = .returned (.agg (ptA x)) ∧ RS B w' gp l' b' many ∧ Rel part l none x l' b' ∧ w.grownBy w' (some gp) := by
 have hk1 : (hd l).k = 1 := wordk h.tl.hd_ok (by rw [hss]; decide) (by rw [hss]; decide)
 have HK4 : Hid ((hd l).k ≠ 4) := (h.tl.hd_s (by rw [hss]; decide)).1
 have HK1 := Lib.hid hk1
 have HSS := Lib.hid hss
 clear hss hk1
 have HW := Lib.hid (And.intro h.bw h.bp)
 have hb1 : Below w.heap.size w (w.alloc zZ4) := (Below.refl _ _).alloc (Nat.le_refl _) _
 have h1 := h.below hb1
 have hN1 := rnow_any h1
 obtain ⟨tk, htk⟩ : ∃ tk, tk = hd l := ⟨_, rfl⟩
 rw [← htk] at hN1
 have HN1 := Lib.hid hN1
 have HT := Lib.hid htk
 have HOK : Hid (TokOk tk) := by rw [htk]; exact h.tl.hd_ok
 have HP := Lib.hid h1
 have R2 := Lib.hid (pt_row (x := p0) (heap_alloc_new w zZ4))
 have G1 := Lib.hid (zb hb1 (some gp))
 have hf1 := tok_f1
 have hf0 := tok_f0
 clear h h1 hb1 hN1 htk
 go_enter Try.func34, Try.ntmps34
 go_wp2_with fail
 generalize w.alloc zZ4 = W1 at *
 obtain ⟨g2, hg2⟩ : ∃ g2, g2 = w.heap.size := ⟨_, rfl⟩
 rw [← hg2] at R2 ⊢
 have HG2 := Lib.hid hg2
 have HN2 : Hid (g2 ≠ gp) := by have := HW.out; unfold Hid; omega
 clear hg2
 refine HN1.out.mono ?_
 rintro e Wa ⟨rfl, hb⟩
 clear HN1
 replace HP := Lib.hid (HP.out.below hb)
 replace G1 := Lib.hid (zd G1.out (zb hb (some gp)))
 replace R2 := Lib.hid (ze hb R2.out R2.out.lt)
 clear hb
 have hN2 := rnow_any HP.out
 rw [← HT.out] at hN2
 have HN2x := Lib.hid hN2
 clear hN2
 go_wp2_with fail
 refine HN2x.out.mono ?_
 rintro e Wb ⟨rfl, hb⟩
 clear HN2x
 replace HP := Lib.hid (HP.out.below hb)
 replace G1 := Lib.hid (zd G1.out (zb hb (some gp)))
 replace R2 := Lib.hid (ze hb R2.out R2.out.lt)
 clear hb
 have k1I : ((tk.k : Int) != 1) = false := by rw [HT.out, HK1.out]; rfl
 have q0 : ((mkS tk.s).toList == ([99, 111, 110, 115, 116] : List UInt8)) = false := nW [99, 111, 110, 115, 116] HOK.out.1 (by decide) (by rw [HT.out, HSS.out]; decide)
 have q1 : ((mkS tk.s).toList == ([99, 109] : List UInt8)) = false := nW [99, 109] HOK.out.1 (by decide) (by rw [HT.out, HSS.out]; decide)
 have q2 : ((mkS tk.s).toList == ([105, 99, 109] : List UInt8)) = false := nW [105, 99, 109] HOK.out.1 (by decide) (by rw [HT.out, HSS.out]; decide)
 have q3 : ((mkS tk.s).toList == ([109, 97, 116, 99, 104] : List UInt8)) = false := nW [109, 97, 116, 99, 104] HOK.out.1 (by decide) (by rw [HT.out, HSS.out]; decide)
 have q4 : ((mkS tk.s).toList == ([97, 118, 103] : List UInt8)) = true := by rw [show ([97, 118, 103] : List UInt8) = (mkS [97, 118, 103]).toList from (by rw [Lib.toList_data]; rfl), mkS_eq HOK.out.1 (by decide)]; exact decide_eq_true (by rw [HT.out, HSS.out])
 have q5 : ((mkS tk.s).toList == ([112, 97, 105, 114] : List UInt8)) = false := nW [112, 97, 105, 114] HOK.out.1 (by decide) (by rw [HT.out, HSS.out]; decide)
 have q6 : ((mkS tk.s).toList == ([109, 105, 120] : List UInt8)) = false := nW [109, 105, 120] HOK.out.1 (by decide) (by rw [HT.out, HSS.out]; decide)
 have q7 : ((mkS tk.s).toList == ([105, 115, 115, 101] : List UInt8)) = false := nW [105, 115, 115, 101] HOK.out.1 (by decide) (by rw [HT.out, HSS.out]; decide)
 have q8 : ((mkS tk.s).toList == ([115, 115, 101] : List UInt8)) = false := nW [115, 115, 101] HOK.out.1 (by decide) (by rw [HT.out, HSS.out]; decide)
 have hst := rstep_any HP.out
 rw [if_neg HK4.out] at hst
 have HM := Lib.hid (hst)
 go_wp2_with fail
 refine HM.out.mono ?_
 rintro e W2 ⟨rfl, hp, hgn⟩
 replace G1 := Lib.hid (zd G1.out hgn)
 replace R2 := Lib.hid (zc hgn R2.out HN2.out)
 clear HM HP hgn
 have HP := Lib.hid hp
 clear hp
 clear hst k1I hf0 hf1
 have HM := Lib.hid (rn_any HP.out)
 go_wp2_with fail
 refine HM.out.mono ?_
 rintro e X0 ⟨v0, m0, f0, hv0, rfl, hp, hr0, hgn⟩
 replace G1 := Lib.hid (zd G1.out hgn)
 replace R2 := Lib.hid (zc hgn R2.out HN2.out)
 clear HM HP hgn
 have HP := Lib.hid hp
 clear hp
 have HR0 := Lib.hid hr0
 clear hr0
 have HM := Lib.hid (rn_any HP.out)
 go_wp2_with fail
 refine HM.out.mono ?_
 rintro e X1 ⟨v1, m1, f1, hv1, rfl, hp, hr1, hgn⟩
 replace G1 := Lib.hid (zd G1.out hgn)
 replace R2 := Lib.hid (zc hgn R2.out HN2.out)
 clear HM HP hgn
 have HP := Lib.hid hp
 clear hp
 have HR1 := Lib.hid hr1
 clear hr1
 have HM := Lib.hid (rn_any HP.out)
 go_wp2_with fail
 refine HM.out.mono ?_
 rintro e X2 ⟨v2, m2, f2, hv2, rfl, hp, hr2, hgn⟩
 replace G1 := Lib.hid (zd G1.out hgn)
 replace R2 := Lib.hid (zc hgn R2.out HN2.out)
 clear HM HP hgn
 have HP := Lib.hid hp
 clear hp
 have HR2 := Lib.hid hr2
 clear hr2
 obtain ⟨xx, hxx⟩ : ∃ xx : PartS, xx = (⟨5, 0, (v0 : Nat), (v1 : Nat), (v2 : Nat), 0, 0⟩ : PartS) := ⟨_, rfl⟩
 have HXX := Lib.hid hxx
 clear hxx
 have HRL : Hid (Rel part l none (⟨5, 0, (v0 : Nat), (v1 : Nat), (v2 : Nat), 0, 0⟩ : PartS) m2 f2) := part_relN (vs := [v0, v1, v2]) (mn := false) (by rw [HSS.out]; rfl : look partL (hd l).s = some 5) (by rfl) rfl (rel_nums HR0.out (rel_nums HR1.out (rel_nums HR2.out rel_nums0))) rfl
 have b0 := R2.out.cell (show 0 < 7 by omega)
 have z0 := R2.out.frozen 0
 have b1 := R2.out.cell (show 1 < 7 by omega)
 have z1 := R2.out.frozen 1
 have b2 := R2.out.cell (show 2 < 7 by omega)
 have z2 := R2.out.frozen 2
 have b3 := R2.out.cell (show 3 < 7 by omega)
 have z3 := R2.out.frozen 3
 have b4 := R2.out.cell (show 4 < 7 by omega)
 have z4 := R2.out.frozen 4
 have b5 := R2.out.cell (show 5 < 7 by omega)
 have z5 := R2.out.frozen 5
 have b6 := R2.out.cell (show 6 < 7 by omega)
 have z6 := R2.out.frozen 6
 dsimp only [ptF, p0] at b0 b1 b2 b3 b4 b5 b6
 go_wp2_with fail
 (try simp only [Exit.inBlock, Exit.then])
 have hx0 := (za (za (za (za (za (za (za (zf X2 (some g2)) (.inl rfl) (p := ⟨g2, 0, none⟩) (.int .u8 5)) (.inl rfl) (p := ⟨g2, 1, none⟩) (.int .i64 0)) (.inl rfl) (p := ⟨g2, 2, none⟩) (.int .i64 (v0 : Nat))) (.inl rfl) (p := ⟨g2, 3, none⟩) (.int .i64 (v1 : Nat))) (.inl rfl) (p := ⟨g2, 4, none⟩) (.int .i64 (v2 : Nat))) (.inl rfl) (p := ⟨g2, 5, none⟩) (.int .i64 0)) (.inl rfl) (p := ⟨g2, 6, none⟩) (.int .i64 0))
 have hx1 : World.rowIs (((((((X2.setCell ⟨g2, 0, none⟩ (.int .u8 5)).setCell ⟨g2, 1, none⟩ (.int .i64 0)).setCell ⟨g2, 2, none⟩ (.int .i64 (v0 : Nat))).setCell ⟨g2, 3, none⟩ (.int .i64 (v1 : Nat))).setCell ⟨g2, 4, none⟩ (.int .i64 (v2 : Nat))).setCell ⟨g2, 5, none⟩ (.int .i64 0)).setCell ⟨g2, 6, none⟩ (.int .i64 0)) g2 55 7 (ptF xx) := by rw [HXX.out]; exact pt_all (⟨5, 0, (v0 : Nat), (v1 : Nat), (v2 : Nat), 0, 0⟩ : PartS) R2.out
 have hx2 := HP.out.kept (row := some g2) hx0 (fun k e => by injection e with e; have := HG2.out; have := HW.out; omega)
 have hx3 := (za (za (za (za (za (za (za G1.out (.inr (Nat.le_of_eq HG2.out.symm)) (p := ⟨g2, 0, none⟩) (.int .u8 5)) (.inr (Nat.le_of_eq HG2.out.symm)) (p := ⟨g2, 1, none⟩) (.int .i64 0)) (.inr (Nat.le_of_eq HG2.out.symm)) (p := ⟨g2, 2, none⟩) (.int .i64 (v0 : Nat))) (.inr (Nat.le_of_eq HG2.out.symm)) (p := ⟨g2, 3, none⟩) (.int .i64 (v1 : Nat))) (.inr (Nat.le_of_eq HG2.out.symm)) (p := ⟨g2, 4, none⟩) (.int .i64 (v2 : Nat))) (.inr (Nat.le_of_eq HG2.out.symm)) (p := ⟨g2, 5, none⟩) (.int .i64 0)) (.inr (Nat.le_of_eq HG2.out.symm)) (p := ⟨g2, 6, none⟩) (.int .i64 0))
 clear hx0
 generalize (((((((X2.setCell ⟨g2, 0, none⟩ (.int .u8 5)).setCell ⟨g2, 1, none⟩ (.int .i64 0)).setCell ⟨g2, 2, none⟩ (.int .i64 (v0 : Nat))).setCell ⟨g2, 3, none⟩ (.int .i64 (v1 : Nat))).setCell ⟨g2, 4, none⟩ (.int .i64 (v2 : Nat))).setCell ⟨g2, 5, none⟩ (.int .i64 0)).setCell ⟨g2, 6, none⟩ (.int .i64 0)) = W99 at hx1 hx2 hx3 ⊢
 refine bodyPost_ret (pt_results rfl _ _ g2 xx rfl hx1) rfl ?_
 have hrel := HRL.out
 rw [← HXX.out] at hrel
 first | exact ⟨xx, m2, f2, rfl, hx2, hrel, hx3⟩ | exact ⟨xx, rfl, m2, f2, hx2, hrel, hx3⟩
set_option maxRecDepth 100000 in
set_option maxHeartbeats 40000000 in
theorem rpart_pair (h : RS B w gp l none many) (hss : (hd l).s = [112, 97, 105, 114]) : Calls Try.prog 34 #[.pointer (some ⟨gp, 0, none⟩)] w fun e w' => ∃ x l' b', e = .returned (.agg (ptA x)) ∧ RS B w' gp l' b' many ∧ Rel part l none x l' b' ∧ w.grownBy w' (some gp) := by
 have hk1 : (hd l).k = 1 := wordk h.tl.hd_ok (by rw [hss]; decide) (by rw [hss]; decide)
 have HK4 : Hid ((hd l).k ≠ 4) := (h.tl.hd_s (by rw [hss]; decide)).1
 have HK1 := Lib.hid hk1
 have HSS := Lib.hid hss
 clear hss hk1
 have HW := Lib.hid (And.intro h.bw h.bp)
 have hb1 : Below w.heap.size w (w.alloc zZ4) := (Below.refl _ _).alloc (Nat.le_refl _) _
 have h1 := h.below hb1
 have hN1 := rnow_any h1
 obtain ⟨tk, htk⟩ : ∃ tk, tk = hd l := ⟨_, rfl⟩
 rw [← htk] at hN1
 have HN1 := Lib.hid hN1
 have HT := Lib.hid htk
 have HOK : Hid (TokOk tk) := by rw [htk]; exact h.tl.hd_ok
 have HP := Lib.hid h1
 have R2 := Lib.hid (pt_row (x := p0) (heap_alloc_new w zZ4))
 have G1 := Lib.hid (zb hb1 (some gp))
 have hf1 := tok_f1
 have hf0 := tok_f0
 clear h h1 hb1 hN1 htk
 go_enter Try.func34, Try.ntmps34
 go_wp2_with fail
 generalize w.alloc zZ4 = W1 at *
 obtain ⟨g2, hg2⟩ : ∃ g2, g2 = w.heap.size := ⟨_, rfl⟩
 rw [← hg2] at R2 ⊢
 have HG2 := Lib.hid hg2
 have HN2 : Hid (g2 ≠ gp) := by have := HW.out; unfold Hid; omega
 clear hg2
 refine HN1.out.mono ?_
 rintro e Wa ⟨rfl, hb⟩
 clear HN1
 replace HP := Lib.hid (HP.out.below hb)
 replace G1 := Lib.hid (zd G1.out (zb hb (some gp)))
 replace R2 := Lib.hid (ze hb R2.out R2.out.lt)
 clear hb
 have hN2 := rnow_any HP.out
 rw [← HT.out] at hN2
 have HN2x := Lib.hid hN2
 clear hN2
 go_wp2_with fail
 refine HN2x.out.mono ?_
 rintro e Wb ⟨rfl, hb⟩
 clear HN2x
 replace HP := Lib.hid (HP.out.below hb)
 replace G1 := Lib.hid (zd G1.out (zb hb (some gp)))
 replace R2 := Lib.hid (ze hb R2.out R2.out.lt)
 clear hb
 have k1I : ((tk.k : Int) != 1) = false := by rw [HT.out, HK1.out]; rfl
 have q0 : ((mkS tk.s).toList == ([99, 111, 110, 115, 116] : List UInt8)) = false := nW [99, 111, 110, 115, 116] HOK.out.1 (by decide) (by rw [HT.out, HSS.out]; decide)
 have q1 : ((mkS tk.s).toList == ([99, 109] : List UInt8)) = false := nW [99, 109] HOK.out.1 (by decide) (by rw [HT.out, HSS.out]; decide)
 have q2 : ((mkS tk.s).toList == ([105, 99, 109] : List UInt8)) = false := nW [105, 99, 109] HOK.out.1 (by decide) (by rw [HT.out, HSS.out]; decide)
 have q3 : ((mkS tk.s).toList == ([109, 97, 116, 99, 104] : List UInt8)) = false := nW [109, 97, 116, 99, 104] HOK.out.1 (by decide) (by rw [HT.out, HSS.out]; decide)
 have q4 : ((mkS tk.s).toList == ([97, 118, 103] : List UInt8)) = false := nW [97, 118, 103] HOK.out.1 (by decide) (by rw [HT.out, HSS.out]; decide)
 have q5 : ((mkS tk.s).toList == ([112, 97, 105, 114] : List UInt8)) = true := by rw [show ([112, 97, 105, 114] : List UInt8) = (mkS [112, 97, 105, 114]).toList from (by rw [Lib.toList_data]; rfl), mkS_eq HOK.out.1 (by decide)]; exact decide_eq_true (by rw [HT.out, HSS.out])
 have q6 : ((mkS tk.s).toList == ([109, 105, 120] : List UInt8)) = false := nW [109, 105, 120] HOK.out.1 (by decide) (by rw [HT.out, HSS.out]; decide)
 have q7 : ((mkS tk.s).toList == ([105, 115, 115, 101] : List UInt8)) = false := nW [105, 115, 115, 101] HOK.out.1 (by decide) (by rw [HT.out, HSS.out]; decide)
 have q8 : ((mkS tk.s).toList == ([115, 115, 101] : List UInt8)) = false := nW [115, 115, 101] HOK.out.1 (by decide) (by rw [HT.out, HSS.out]; decide)
 have hst := rstep_any HP.out
 rw [if_neg HK4.out] at hst
 have HM := Lib.hid (hst)
 go_wp2_with fail
 refine HM.out.mono ?_
 rintro e W2 ⟨rfl, hp, hgn⟩
 replace G1 := Lib.hid (zd G1.out hgn)
 replace R2 := Lib.hid (zc hgn R2.out HN2.out)
 clear HM HP hgn
 have HP := Lib.hid hp
 clear hp
 clear hst k1I hf0 hf1
 have HM := Lib.hid (rn_any HP.out)
 go_wp2_with fail
 refine HM.out.mono ?_
 rintro e X0 ⟨v0, m0, f0, hv0, rfl, hp, hr0, hgn⟩
 replace G1 := Lib.hid (zd G1.out hgn)
 replace R2 := Lib.hid (zc hgn R2.out HN2.out)
 clear HM HP hgn
 have HP := Lib.hid hp
 clear hp
 have HR0 := Lib.hid hr0
 clear hr0
 have HM := Lib.hid (rn_any HP.out)
 go_wp2_with fail
 refine HM.out.mono ?_
 rintro e X1 ⟨v1, m1, f1, hv1, rfl, hp, hr1, hgn⟩
 replace G1 := Lib.hid (zd G1.out hgn)
 replace R2 := Lib.hid (zc hgn R2.out HN2.out)
 clear HM HP hgn
 have HP := Lib.hid hp
 clear hp
 have HR1 := Lib.hid hr1
 clear hr1
 have HM := Lib.hid (rn_any HP.out)
 go_wp2_with fail
 refine HM.out.mono ?_
 rintro e X2 ⟨v2, m2, f2, hv2, rfl, hp, hr2, hgn⟩
 replace G1 := Lib.hid (zd G1.out hgn)
 replace R2 := Lib.hid (zc hgn R2.out HN2.out)
 clear HM HP hgn
 have HP := Lib.hid hp
 clear hp
 have HR2 := Lib.hid hr2
 clear hr2
 have HM := Lib.hid (rn_any HP.out)
 go_wp2_with fail
 refine HM.out.mono ?_
 rintro e X3 ⟨v3, m3, f3, hv3, rfl, hp, hr3, hgn⟩
 replace G1 := Lib.hid (zd G1.out hgn)
 replace R2 := Lib.hid (zc hgn R2.out HN2.out)
 clear HM HP hgn
 have HP := Lib.hid hp
 clear hp
 have HR3 := Lib.hid hr3
 clear hr3
 obtain ⟨xx, hxx⟩ : ∃ xx : PartS, xx = (⟨6, (v0 : Nat), (v1 : Nat), (v2 : Nat), 0, (v3 : Nat), 0⟩ : PartS) := ⟨_, rfl⟩
 have HXX := Lib.hid hxx
 clear hxx
 have HRL : Hid (Rel part l none (⟨6, (v0 : Nat), (v1 : Nat), (v2 : Nat), 0, (v3 : Nat), 0⟩ : PartS) m3 f3) := part_relN (vs := [v0, v1, v2, v3]) (mn := false) (by rw [HSS.out]; rfl : look partL (hd l).s = some 6) (by rfl) rfl (rel_nums HR0.out (rel_nums HR1.out (rel_nums HR2.out (rel_nums HR3.out rel_nums0)))) rfl
 have b0 := R2.out.cell (show 0 < 7 by omega)
 have z0 := R2.out.frozen 0
 have b1 := R2.out.cell (show 1 < 7 by omega)
 have z1 := R2.out.frozen 1
 have b2 := R2.out.cell (show 2 < 7 by omega)
 have z2 := R2.out.frozen 2
 have b3 := R2.out.cell (show 3 < 7 by omega)
 have z3 := R2.out.frozen 3
 have b4 := R2.out.cell (show 4 < 7 by omega)
 have z4 := R2.out.frozen 4
 have b5 := R2.out.cell (show 5 < 7 by omega)
 have z5 := R2.out.frozen 5
 have b6 := R2.out.cell (show 6 < 7 by omega)
 have z6 := R2.out.frozen 6
 dsimp only [ptF, p0] at b0 b1 b2 b3 b4 b5 b6
 go_wp2_with fail
 (try simp only [Exit.inBlock, Exit.then])
 have hx0 := (za (za (za (za (za (za (za (zf X3 (some g2)) (.inl rfl) (p := ⟨g2, 0, none⟩) (.int .u8 6)) (.inl rfl) (p := ⟨g2, 1, none⟩) (.int .i64 (v0 : Nat))) (.inl rfl) (p := ⟨g2, 2, none⟩) (.int .i64 (v1 : Nat))) (.inl rfl) (p := ⟨g2, 3, none⟩) (.int .i64 (v2 : Nat))) (.inl rfl) (p := ⟨g2, 4, none⟩) (.int .i64 0)) (.inl rfl) (p := ⟨g2, 5, none⟩) (.int .i64 (v3 : Nat))) (.inl rfl) (p := ⟨g2, 6, none⟩) (.int .i64 0))
 have hx1 : World.rowIs (((((((X3.setCell ⟨g2, 0, none⟩ (.int .u8 6)).setCell ⟨g2, 1, none⟩ (.int .i64 (v0 : Nat))).setCell ⟨g2, 2, none⟩ (.int .i64 (v1 : Nat))).setCell ⟨g2, 3, none⟩ (.int .i64 (v2 : Nat))).setCell ⟨g2, 4, none⟩ (.int .i64 0)).setCell ⟨g2, 5, none⟩ (.int .i64 (v3 : Nat))).setCell ⟨g2, 6, none⟩ (.int .i64 0)) g2 55 7 (ptF xx) := by rw [HXX.out]; exact pt_all (⟨6, (v0 : Nat), (v1 : Nat), (v2 : Nat), 0, (v3 : Nat), 0⟩ : PartS) R2.out
 have hx2 := HP.out.kept (row := some g2) hx0 (fun k e => by injection e with e; have := HG2.out; have := HW.out; omega)
 have hx3 := (za (za (za (za (za (za (za G1.out (.inr (Nat.le_of_eq HG2.out.symm)) (p := ⟨g2, 0, none⟩) (.int .u8 6)) (.inr (Nat.le_of_eq HG2.out.symm)) (p := ⟨g2, 1, none⟩) (.int .i64 (v0 : Nat))) (.inr (Nat.le_of_eq HG2.out.symm)) (p := ⟨g2, 2, none⟩) (.int .i64 (v1 : Nat))) (.inr (Nat.le_of_eq HG2.out.symm)) (p := ⟨g2, 3, none⟩) (.int .i64 (v2 : Nat))) (.inr (Nat.le_of_eq HG2.out.symm)) (p := ⟨g2, 4, none⟩) (.int .i64 0)) (.inr (Nat.le_of_eq HG2.out.symm)) (p := ⟨g2, 5, none⟩) (.int .i64 (v3 : Nat))) (.inr (Nat.le_of_eq HG2.out.symm)) (p := ⟨g2, 6, none⟩) (.int .i64 0))
 clear hx0
 generalize (((((((X3.setCell ⟨g2, 0, none⟩ (.int .u8 6)).setCell ⟨g2, 1, none⟩ (.int .i64 (v0 : Nat))).setCell ⟨g2, 2, none⟩ (.int .i64 (v1 : Nat))).setCell ⟨g2, 3, none⟩ (.int .i64 (v2 : Nat))).setCell ⟨g2, 4, none⟩ (.int .i64 0)).setCell ⟨g2, 5, none⟩ (.int .i64 (v3 : Nat))).setCell ⟨g2, 6, none⟩ (.int .i64 0)) = W99 at hx1 hx2 hx3 ⊢
 refine bodyPost_ret (pt_results rfl _ _ g2 xx rfl hx1) rfl ?_
 have hrel := HRL.out
 rw [← HXX.out] at hrel
 first | exact ⟨xx, m3, f3, rfl, hx2, hrel, hx3⟩ | exact ⟨xx, rfl, m3, f3, hx2, hrel, hx3⟩
set_option maxRecDepth 100000 in
set_option maxHeartbeats 40000000 in
theorem rpart_mix (h : RS B w gp l none many) (hss : (hd l).s = [109, 105, 120]) : Calls Try.prog 34 #[.pointer (some ⟨gp, 0, none⟩)] w fun e w' => ∃ x l' b', e = .returned (.agg (ptA x)) ∧ RS B w' gp l' b' many ∧ Rel part l none x l' b' ∧ w.grownBy w' (some gp) := by
 have hk1 : (hd l).k = 1 := wordk h.tl.hd_ok (by rw [hss]; decide) (by rw [hss]; decide)
 have HK4 : Hid ((hd l).k ≠ 4) := (h.tl.hd_s (by rw [hss]; decide)).1
 have HK1 := Lib.hid hk1
 have HSS := Lib.hid hss
 clear hss hk1
 have HW := Lib.hid (And.intro h.bw h.bp)
 have hb1 : Below w.heap.size w (w.alloc zZ4) := (Below.refl _ _).alloc (Nat.le_refl _) _
 have h1 := h.below hb1
 have hN1 := rnow_any h1
 obtain ⟨tk, htk⟩ : ∃ tk, tk = hd l := ⟨_, rfl⟩
 rw [← htk] at hN1
 have HN1 := Lib.hid hN1
 have HT := Lib.hid htk
 have HOK : Hid (TokOk tk) := by rw [htk]; exact h.tl.hd_ok
 have HP := Lib.hid h1
 have R2 := Lib.hid (pt_row (x := p0) (heap_alloc_new w zZ4))
 have G1 := Lib.hid (zb hb1 (some gp))
 have hf1 := tok_f1
 have hf0 := tok_f0
 clear h h1 hb1 hN1 htk
 go_enter Try.func34, Try.ntmps34
 go_wp2_with fail
 generalize w.alloc zZ4 = W1 at *
 obtain ⟨g2, hg2⟩ : ∃ g2, g2 = w.heap.size := ⟨_, rfl⟩
 rw [← hg2] at R2 ⊢
 have HG2 := Lib.hid hg2
 have HN2 : Hid (g2 ≠ gp) := by have := HW.out; unfold Hid; omega
 clear hg2
 refine HN1.out.mono ?_
 rintro e Wa ⟨rfl, hb⟩
 clear HN1
 replace HP := Lib.hid (HP.out.below hb)
 replace G1 := Lib.hid (zd G1.out (zb hb (some gp)))
 replace R2 := Lib.hid (ze hb R2.out R2.out.lt)
 clear hb
 have hN2 := rnow_any HP.out
 rw [← HT.out] at hN2
 have HN2x := Lib.hid hN2
 clear hN2
 go_wp2_with fail
 refine HN2x.out.mono ?_
 rintro e Wb ⟨rfl, hb⟩
 clear HN2x
 replace HP := Lib.hid (HP.out.below hb)
 replace G1 := Lib.hid (zd G1.out (zb hb (some gp)))
 replace R2 := Lib.hid (ze hb R2.out R2.out.lt)
 clear hb
 have k1I : ((tk.k : Int) != 1) = false := by rw [HT.out, HK1.out]; rfl
 have q0 : ((mkS tk.s).toList == ([99, 111, 110, 115, 116] : List UInt8)) = false := nW [99, 111, 110, 115, 116] HOK.out.1 (by decide) (by rw [HT.out, HSS.out]; decide)
 have q1 : ((mkS tk.s).toList == ([99, 109] : List UInt8)) = false := nW [99, 109] HOK.out.1 (by decide) (by rw [HT.out, HSS.out]; decide)
 have q2 : ((mkS tk.s).toList == ([105, 99, 109] : List UInt8)) = false := nW [105, 99, 109] HOK.out.1 (by decide) (by rw [HT.out, HSS.out]; decide)
 have q3 : ((mkS tk.s).toList == ([109, 97, 116, 99, 104] : List UInt8)) = false := nW [109, 97, 116, 99, 104] HOK.out.1 (by decide) (by rw [HT.out, HSS.out]; decide)
 have q4 : ((mkS tk.s).toList == ([97, 118, 103] : List UInt8)) = false := nW [97, 118, 103] HOK.out.1 (by decide) (by rw [HT.out, HSS.out]; decide)
 have q5 : ((mkS tk.s).toList == ([112, 97, 105, 114] : List UInt8)) = false := nW [112, 97, 105, 114] HOK.out.1 (by decide) (by rw [HT.out, HSS.out]; decide)
 have q6 : ((mkS tk.s).toList == ([109, 105, 120] : List UInt8)) = true := by rw [show ([109, 105, 120] : List UInt8) = (mkS [109, 105, 120]).toList from (by rw [Lib.toList_data]; rfl), mkS_eq HOK.out.1 (by decide)]; exact decide_eq_true (by rw [HT.out, HSS.out])
 have q7 : ((mkS tk.s).toList == ([105, 115, 115, 101] : List UInt8)) = false := nW [105, 115, 115, 101] HOK.out.1 (by decide) (by rw [HT.out, HSS.out]; decide)
 have q8 : ((mkS tk.s).toList == ([115, 115, 101] : List UInt8)) = false := nW [115, 115, 101] HOK.out.1 (by decide) (by rw [HT.out, HSS.out]; decide)
 have hst := rstep_any HP.out
 rw [if_neg HK4.out] at hst
 have HM := Lib.hid (hst)
 go_wp2_with fail
 refine HM.out.mono ?_
 rintro e W2 ⟨rfl, hp, hgn⟩
 replace G1 := Lib.hid (zd G1.out hgn)
 replace R2 := Lib.hid (zc hgn R2.out HN2.out)
 clear HM HP hgn
 have HP := Lib.hid hp
 clear hp
 clear hst k1I hf0 hf1
 have HM := Lib.hid (rn_any HP.out)
 go_wp2_with fail
 refine HM.out.mono ?_
 rintro e X0 ⟨v0, m0, f0, hv0, rfl, hp, hr0, hgn⟩
 replace G1 := Lib.hid (zd G1.out hgn)
 replace R2 := Lib.hid (zc hgn R2.out HN2.out)
 clear HM HP hgn
 have HP := Lib.hid hp
 clear hp
 have HR0 := Lib.hid hr0
 clear hr0
 have HM := Lib.hid (rn_any HP.out)
 go_wp2_with fail
 refine HM.out.mono ?_
 rintro e X1 ⟨v1, m1, f1, hv1, rfl, hp, hr1, hgn⟩
 replace G1 := Lib.hid (zd G1.out hgn)
 replace R2 := Lib.hid (zc hgn R2.out HN2.out)
 clear HM HP hgn
 have HP := Lib.hid hp
 clear hp
 have HR1 := Lib.hid hr1
 clear hr1
 have HM := Lib.hid (rn_any HP.out)
 go_wp2_with fail
 refine HM.out.mono ?_
 rintro e X2 ⟨v2, m2, f2, hv2, rfl, hp, hr2, hgn⟩
 replace G1 := Lib.hid (zd G1.out hgn)
 replace R2 := Lib.hid (zc hgn R2.out HN2.out)
 clear HM HP hgn
 have HP := Lib.hid hp
 clear hp
 have HR2 := Lib.hid hr2
 clear hr2
 have HM := Lib.hid (rn_any HP.out)
 go_wp2_with fail
 refine HM.out.mono ?_
 rintro e X3 ⟨v3, m3, f3, hv3, rfl, hp, hr3, hgn⟩
 replace G1 := Lib.hid (zd G1.out hgn)
 replace R2 := Lib.hid (zc hgn R2.out HN2.out)
 clear HM HP hgn
 have HP := Lib.hid hp
 clear hp
 have HR3 := Lib.hid hr3
 clear hr3
 obtain ⟨xx, hxx⟩ : ∃ xx : PartS, xx = (⟨7, (v0 : Nat), (v1 : Nat), (v2 : Nat), 0, (v3 : Nat), 0⟩ : PartS) := ⟨_, rfl⟩
 have HXX := Lib.hid hxx
 clear hxx
 have HRL : Hid (Rel part l none (⟨7, (v0 : Nat), (v1 : Nat), (v2 : Nat), 0, (v3 : Nat), 0⟩ : PartS) m3 f3) := part_relN (vs := [v0, v1, v2, v3]) (mn := false) (by rw [HSS.out]; rfl : look partL (hd l).s = some 7) (by rfl) rfl (rel_nums HR0.out (rel_nums HR1.out (rel_nums HR2.out (rel_nums HR3.out rel_nums0)))) rfl
 have b0 := R2.out.cell (show 0 < 7 by omega)
 have z0 := R2.out.frozen 0
 have b1 := R2.out.cell (show 1 < 7 by omega)
 have z1 := R2.out.frozen 1
 have b2 := R2.out.cell (show 2 < 7 by omega)
 have z2 := R2.out.frozen 2
 have b3 := R2.out.cell (show 3 < 7 by omega)
 have z3 := R2.out.frozen 3
 have b4 := R2.out.cell (show 4 < 7 by omega)
 have z4 := R2.out.frozen 4
 have b5 := R2.out.cell (show 5 < 7 by omega)
 have z5 := R2.out.frozen 5
 have b6 := R2.out.cell (show 6 < 7 by omega)
 have z6 := R2.out.frozen 6
 dsimp only [ptF, p0] at b0 b1 b2 b3 b4 b5 b6
 go_wp2_with fail
 (try simp only [Exit.inBlock, Exit.then])
 have hx0 := (za (za (za (za (za (za (za (zf X3 (some g2)) (.inl rfl) (p := ⟨g2, 0, none⟩) (.int .u8 7)) (.inl rfl) (p := ⟨g2, 1, none⟩) (.int .i64 (v0 : Nat))) (.inl rfl) (p := ⟨g2, 2, none⟩) (.int .i64 (v1 : Nat))) (.inl rfl) (p := ⟨g2, 3, none⟩) (.int .i64 (v2 : Nat))) (.inl rfl) (p := ⟨g2, 4, none⟩) (.int .i64 0)) (.inl rfl) (p := ⟨g2, 5, none⟩) (.int .i64 (v3 : Nat))) (.inl rfl) (p := ⟨g2, 6, none⟩) (.int .i64 0))
 have hx1 : World.rowIs (((((((X3.setCell ⟨g2, 0, none⟩ (.int .u8 7)).setCell ⟨g2, 1, none⟩ (.int .i64 (v0 : Nat))).setCell ⟨g2, 2, none⟩ (.int .i64 (v1 : Nat))).setCell ⟨g2, 3, none⟩ (.int .i64 (v2 : Nat))).setCell ⟨g2, 4, none⟩ (.int .i64 0)).setCell ⟨g2, 5, none⟩ (.int .i64 (v3 : Nat))).setCell ⟨g2, 6, none⟩ (.int .i64 0)) g2 55 7 (ptF xx) := by rw [HXX.out]; exact pt_all (⟨7, (v0 : Nat), (v1 : Nat), (v2 : Nat), 0, (v3 : Nat), 0⟩ : PartS) R2.out
 have hx2 := HP.out.kept (row := some g2) hx0 (fun k e => by injection e with e; have := HG2.out; have := HW.out; omega)
 have hx3 := (za (za (za (za (za (za (za G1.out (.inr (Nat.le_of_eq HG2.out.symm)) (p := ⟨g2, 0, none⟩) (.int .u8 7)) (.inr (Nat.le_of_eq HG2.out.symm)) (p := ⟨g2, 1, none⟩) (.int .i64 (v0 : Nat))) (.inr (Nat.le_of_eq HG2.out.symm)) (p := ⟨g2, 2, none⟩) (.int .i64 (v1 : Nat))) (.inr (Nat.le_of_eq HG2.out.symm)) (p := ⟨g2, 3, none⟩) (.int .i64 (v2 : Nat))) (.inr (Nat.le_of_eq HG2.out.symm)) (p := ⟨g2, 4, none⟩) (.int .i64 0)) (.inr (Nat.le_of_eq HG2.out.symm)) (p := ⟨g2, 5, none⟩) (.int .i64 (v3 : Nat))) (.inr (Nat.le_of_eq HG2.out.symm)) (p := ⟨g2, 6, none⟩) (.int .i64 0))
 clear hx0
 generalize (((((((X3.setCell ⟨g2, 0, none⟩ (.int .u8 7)).setCell ⟨g2, 1, none⟩ (.int .i64 (v0 : Nat))).setCell ⟨g2, 2, none⟩ (.int .i64 (v1 : Nat))).setCell ⟨g2, 3, none⟩ (.int .i64 (v2 : Nat))).setCell ⟨g2, 4, none⟩ (.int .i64 0)).setCell ⟨g2, 5, none⟩ (.int .i64 (v3 : Nat))).setCell ⟨g2, 6, none⟩ (.int .i64 0)) = W99 at hx1 hx2 hx3 ⊢
 refine bodyPost_ret (pt_results rfl _ _ g2 xx rfl hx1) rfl ?_
 have hrel := HRL.out
 rw [← HXX.out] at hrel
 first | exact ⟨xx, m3, f3, rfl, hx2, hrel, hx3⟩ | exact ⟨xx, rfl, m3, f3, hx2, hrel, hx3⟩
set_option maxRecDepth 100000 in
set_option maxHeartbeats 40000000 in
theorem rpart_isse (h : RS B w gp l none many) (hss : (hd l).s = [105, 115, 115, 101]) : Calls Try.prog 34 #[.pointer (some ⟨gp, 0, none⟩)] w fun e w' => ∃ x l' b', e = .returned (.agg (ptA x)) ∧ RS B w' gp l' b' many ∧ Rel part l none x l' b' ∧ w.grownBy w' (some gp) := by
 have hk1 : (hd l).k = 1 := wordk h.tl.hd_ok (by rw [hss]; decide) (by rw [hss]; decide)
 have HK4 : Hid ((hd l).k ≠ 4) := (h.tl.hd_s (by rw [hss]; decide)).1
 have HK1 := Lib.hid hk1
 have HSS := Lib.hid hss
 clear hss hk1
 have HW := Lib.hid (And.intro h.bw h.bp)
 have hb1 : Below w.heap.size w (w.alloc zZ4) := (Below.refl _ _).alloc (Nat.le_refl _) _
 have h1 := h.below hb1
 have hN1 := rnow_any h1
 obtain ⟨tk, htk⟩ : ∃ tk, tk = hd l := ⟨_, rfl⟩
 rw [← htk] at hN1
 have HN1 := Lib.hid hN1
 have HT := Lib.hid htk
 have HOK : Hid (TokOk tk) := by rw [htk]; exact h.tl.hd_ok
 have HP := Lib.hid h1
 have R2 := Lib.hid (pt_row (x := p0) (heap_alloc_new w zZ4))
 have G1 := Lib.hid (zb hb1 (some gp))
 have hf1 := tok_f1
 have hf0 := tok_f0
 clear h h1 hb1 hN1 htk
 go_enter Try.func34, Try.ntmps34
 go_wp2_with fail
 generalize w.alloc zZ4 = W1 at *
 obtain ⟨g2, hg2⟩ : ∃ g2, g2 = w.heap.size := ⟨_, rfl⟩
 rw [← hg2] at R2 ⊢
 have HG2 := Lib.hid hg2
 have HN2 : Hid (g2 ≠ gp) := by have := HW.out; unfold Hid; omega
 clear hg2
 refine HN1.out.mono ?_
 rintro e Wa ⟨rfl, hb⟩
 clear HN1
 replace HP := Lib.hid (HP.out.below hb)
 replace G1 := Lib.hid (zd G1.out (zb hb (some gp)))
 replace R2 := Lib.hid (ze hb R2.out R2.out.lt)
 clear hb
 have hN2 := rnow_any HP.out
 rw [← HT.out] at hN2
 have HN2x := Lib.hid hN2
 clear hN2
 go_wp2_with fail
 refine HN2x.out.mono ?_
 rintro e Wb ⟨rfl, hb⟩
 clear HN2x
 replace HP := Lib.hid (HP.out.below hb)
 replace G1 := Lib.hid (zd G1.out (zb hb (some gp)))
 replace R2 := Lib.hid (ze hb R2.out R2.out.lt)
 clear hb
 have k1I : ((tk.k : Int) != 1) = false := by rw [HT.out, HK1.out]; rfl
 have q0 : ((mkS tk.s).toList == ([99, 111, 110, 115, 116] : List UInt8)) = false := nW [99, 111, 110, 115, 116] HOK.out.1 (by decide) (by rw [HT.out, HSS.out]; decide)
 have q1 : ((mkS tk.s).toList == ([99, 109] : List UInt8)) = false := nW [99, 109] HOK.out.1 (by decide) (by rw [HT.out, HSS.out]; decide)
 have q2 : ((mkS tk.s).toList == ([105, 99, 109] : List UInt8)) = false := nW [105, 99, 109] HOK.out.1 (by decide) (by rw [HT.out, HSS.out]; decide)
 have q3 : ((mkS tk.s).toList == ([109, 97, 116, 99, 104] : List UInt8)) = false := nW [109, 97, 116, 99, 104] HOK.out.1 (by decide) (by rw [HT.out, HSS.out]; decide)
 have q4 : ((mkS tk.s).toList == ([97, 118, 103] : List UInt8)) = false := nW [97, 118, 103] HOK.out.1 (by decide) (by rw [HT.out, HSS.out]; decide)
 have q5 : ((mkS tk.s).toList == ([112, 97, 105, 114] : List UInt8)) = false := nW [112, 97, 105, 114] HOK.out.1 (by decide) (by rw [HT.out, HSS.out]; decide)
 have q6 : ((mkS tk.s).toList == ([109, 105, 120] : List UInt8)) = false := nW [109, 105, 120] HOK.out.1 (by decide) (by rw [HT.out, HSS.out]; decide)
 have q7 : ((mkS tk.s).toList == ([105, 115, 115, 101] : List UInt8)) = true := by rw [show ([105, 115, 115, 101] : List UInt8) = (mkS [105, 115, 115, 101]).toList from (by rw [Lib.toList_data]; rfl), mkS_eq HOK.out.1 (by decide)]; exact decide_eq_true (by rw [HT.out, HSS.out])
 have q8 : ((mkS tk.s).toList == ([115, 115, 101] : List UInt8)) = false := nW [115, 115, 101] HOK.out.1 (by decide) (by rw [HT.out, HSS.out]; decide)
 have hst := rstep_any HP.out
 rw [if_neg HK4.out] at hst
 have HM := Lib.hid (hst)
 go_wp2_with fail
 refine HM.out.mono ?_
 rintro e W2 ⟨rfl, hp, hgn⟩
 replace G1 := Lib.hid (zd G1.out hgn)
 replace R2 := Lib.hid (zc hgn R2.out HN2.out)
 clear HM HP hgn
 have HP := Lib.hid hp
 clear hp
 clear hst k1I hf0 hf1
 have HM := Lib.hid (rn_any HP.out)
 go_wp2_with fail
 refine HM.out.mono ?_
 rintro e X0 ⟨v0, m0, f0, hv0, rfl, hp, hr0, hgn⟩
 replace G1 := Lib.hid (zd G1.out hgn)
 replace R2 := Lib.hid (zc hgn R2.out HN2.out)
 clear HM HP hgn
 have HP := Lib.hid hp
 clear hp
 have HR0 := Lib.hid hr0
 clear hr0
 have HM := Lib.hid (rn_any HP.out)
 go_wp2_with fail
 refine HM.out.mono ?_
 rintro e X1 ⟨v1, m1, f1, hv1, rfl, hp, hr1, hgn⟩
 replace G1 := Lib.hid (zd G1.out hgn)
 replace R2 := Lib.hid (zc hgn R2.out HN2.out)
 clear HM HP hgn
 have HP := Lib.hid hp
 clear hp
 have HR1 := Lib.hid hr1
 clear hr1
 obtain ⟨xx, hxx⟩ : ∃ xx : PartS, xx = (⟨8, (v0 : Nat), (v1 : Nat), 0, 0, 0, 0⟩ : PartS) := ⟨_, rfl⟩
 have HXX := Lib.hid hxx
 clear hxx
 have HRL : Hid (Rel part l none (⟨8, (v0 : Nat), (v1 : Nat), 0, 0, 0, 0⟩ : PartS) m1 f1) := part_relN (vs := [v0, v1]) (mn := false) (by rw [HSS.out]; rfl : look partL (hd l).s = some 8) (by rfl) rfl (rel_nums HR0.out (rel_nums HR1.out rel_nums0)) rfl
 have b0 := R2.out.cell (show 0 < 7 by omega)
 have z0 := R2.out.frozen 0
 have b1 := R2.out.cell (show 1 < 7 by omega)
 have z1 := R2.out.frozen 1
 have b2 := R2.out.cell (show 2 < 7 by omega)
 have z2 := R2.out.frozen 2
 have b3 := R2.out.cell (show 3 < 7 by omega)
 have z3 := R2.out.frozen 3
 have b4 := R2.out.cell (show 4 < 7 by omega)
 have z4 := R2.out.frozen 4
 have b5 := R2.out.cell (show 5 < 7 by omega)
 have z5 := R2.out.frozen 5
 have b6 := R2.out.cell (show 6 < 7 by omega)
 have z6 := R2.out.frozen 6
 dsimp only [ptF, p0] at b0 b1 b2 b3 b4 b5 b6
 go_wp2_with fail
 (try simp only [Exit.inBlock, Exit.then])
 have hx0 := (za (za (za (za (za (za (za (zf X1 (some g2)) (.inl rfl) (p := ⟨g2, 0, none⟩) (.int .u8 8)) (.inl rfl) (p := ⟨g2, 1, none⟩) (.int .i64 (v0 : Nat))) (.inl rfl) (p := ⟨g2, 2, none⟩) (.int .i64 (v1 : Nat))) (.inl rfl) (p := ⟨g2, 3, none⟩) (.int .i64 0)) (.inl rfl) (p := ⟨g2, 4, none⟩) (.int .i64 0)) (.inl rfl) (p := ⟨g2, 5, none⟩) (.int .i64 0)) (.inl rfl) (p := ⟨g2, 6, none⟩) (.int .i64 0))
 have hx1 : World.rowIs (((((((X1.setCell ⟨g2, 0, none⟩ (.int .u8 8)).setCell ⟨g2, 1, none⟩ (.int .i64 (v0 : Nat))).setCell ⟨g2, 2, none⟩ (.int .i64 (v1 : Nat))).setCell ⟨g2, 3, none⟩ (.int .i64 0)).setCell ⟨g2, 4, none⟩ (.int .i64 0)).setCell ⟨g2, 5, none⟩ (.int .i64 0)).setCell ⟨g2, 6, none⟩ (.int .i64 0)) g2 55 7 (ptF xx) := by rw [HXX.out]; exact pt_all (⟨8, (v0 : Nat), (v1 : Nat), 0, 0, 0, 0⟩ : PartS) R2.out
 have hx2 := HP.out.kept (row := some g2) hx0 (fun k e => by injection e with e; have := HG2.out; have := HW.out; omega)
 have hx3 := (za (za (za (za (za (za (za G1.out (.inr (Nat.le_of_eq HG2.out.symm)) (p := ⟨g2, 0, none⟩) (.int .u8 8)) (.inr (Nat.le_of_eq HG2.out.symm)) (p := ⟨g2, 1, none⟩) (.int .i64 (v0 : Nat))) (.inr (Nat.le_of_eq HG2.out.symm)) (p := ⟨g2, 2, none⟩) (.int .i64 (v1 : Nat))) (.inr (Nat.le_of_eq HG2.out.symm)) (p := ⟨g2, 3, none⟩) (.int .i64 0)) (.inr (Nat.le_of_eq HG2.out.symm)) (p := ⟨g2, 4, none⟩) (.int .i64 0)) (.inr (Nat.le_of_eq HG2.out.symm)) (p := ⟨g2, 5, none⟩) (.int .i64 0)) (.inr (Nat.le_of_eq HG2.out.symm)) (p := ⟨g2, 6, none⟩) (.int .i64 0))
 clear hx0
 generalize (((((((X1.setCell ⟨g2, 0, none⟩ (.int .u8 8)).setCell ⟨g2, 1, none⟩ (.int .i64 (v0 : Nat))).setCell ⟨g2, 2, none⟩ (.int .i64 (v1 : Nat))).setCell ⟨g2, 3, none⟩ (.int .i64 0)).setCell ⟨g2, 4, none⟩ (.int .i64 0)).setCell ⟨g2, 5, none⟩ (.int .i64 0)).setCell ⟨g2, 6, none⟩ (.int .i64 0)) = W99 at hx1 hx2 hx3 ⊢
 refine bodyPost_ret (pt_results rfl _ _ g2 xx rfl hx1) rfl ?_
 have hrel := HRL.out
 rw [← HXX.out] at hrel
 first | exact ⟨xx, m1, f1, rfl, hx2, hrel, hx3⟩ | exact ⟨xx, rfl, m1, f1, hx2, hrel, hx3⟩
set_option maxRecDepth 100000 in
set_option maxHeartbeats 40000000 in
theorem rpart_sse (h : RS B w gp l none many) (hss : (hd l).s = [115, 115, 101]) : Calls Try.prog 34 #[.pointer (some ⟨gp, 0, none⟩)] w fun e w' => ∃ x l' b', e = .returned (.agg (ptA x)) ∧ RS B w' gp l' b' many ∧ Rel part l none x l' b' ∧ w.grownBy w' (some gp) := by
 have hk1 : (hd l).k = 1 := wordk h.tl.hd_ok (by rw [hss]; decide) (by rw [hss]; decide)
 have HK4 : Hid ((hd l).k ≠ 4) := (h.tl.hd_s (by rw [hss]; decide)).1
 have HK1 := Lib.hid hk1
 have HSS := Lib.hid hss
 clear hss hk1
 have HW := Lib.hid (And.intro h.bw h.bp)
 have hb1 : Below w.heap.size w (w.alloc zZ4) := (Below.refl _ _).alloc (Nat.le_refl _) _
 have h1 := h.below hb1
 have hN1 := rnow_any h1
 obtain ⟨tk, htk⟩ : ∃ tk, tk = hd l := ⟨_, rfl⟩
 rw [← htk] at hN1
 have HN1 := Lib.hid hN1
 have HT := Lib.hid htk
 have HOK : Hid (TokOk tk) := by rw [htk]; exact h.tl.hd_ok
 have HP := Lib.hid h1
 have R2 := Lib.hid (pt_row (x := p0) (heap_alloc_new w zZ4))
 have G1 := Lib.hid (zb hb1 (some gp))
 have hf1 := tok_f1
 have hf0 := tok_f0
 clear h h1 hb1 hN1 htk
 go_enter Try.func34, Try.ntmps34
 go_wp2_with fail
 generalize w.alloc zZ4 = W1 at *
 obtain ⟨g2, hg2⟩ : ∃ g2, g2 = w.heap.size := ⟨_, rfl⟩
 rw [← hg2] at R2 ⊢
 have HG2 := Lib.hid hg2
 have HN2 : Hid (g2 ≠ gp) := by have := HW.out; unfold Hid; omega
 clear hg2
 refine HN1.out.mono ?_
 rintro e Wa ⟨rfl, hb⟩
 clear HN1
 replace HP := Lib.hid (HP.out.below hb)
 replace G1 := Lib.hid (zd G1.out (zb hb (some gp)))
 replace R2 := Lib.hid (ze hb R2.out R2.out.lt)
 clear hb
 have hN2 := rnow_any HP.out
 rw [← HT.out] at hN2
 have HN2x := Lib.hid hN2
 clear hN2
 go_wp2_with fail
 refine HN2x.out.mono ?_
 rintro e Wb ⟨rfl, hb⟩
 clear HN2x
 replace HP := Lib.hid (HP.out.below hb)
 replace G1 := Lib.hid (zd G1.out (zb hb (some gp)))
 replace R2 := Lib.hid (ze hb R2.out R2.out.lt)
 clear hb
 have k1I : ((tk.k : Int) != 1) = false := by rw [HT.out, HK1.out]; rfl
 have q0 : ((mkS tk.s).toList == ([99, 111, 110, 115, 116] : List UInt8)) = false := nW [99, 111, 110, 115, 116] HOK.out.1 (by decide) (by rw [HT.out, HSS.out]; decide)
 have q1 : ((mkS tk.s).toList == ([99, 109] : List UInt8)) = false := nW [99, 109] HOK.out.1 (by decide) (by rw [HT.out, HSS.out]; decide)
 have q2 : ((mkS tk.s).toList == ([105, 99, 109] : List UInt8)) = false := nW [105, 99, 109] HOK.out.1 (by decide) (by rw [HT.out, HSS.out]; decide)
 have q3 : ((mkS tk.s).toList == ([109, 97, 116, 99, 104] : List UInt8)) = false := nW [109, 97, 116, 99, 104] HOK.out.1 (by decide) (by rw [HT.out, HSS.out]; decide)
 have q4 : ((mkS tk.s).toList == ([97, 118, 103] : List UInt8)) = false := nW [97, 118, 103] HOK.out.1 (by decide) (by rw [HT.out, HSS.out]; decide)
 have q5 : ((mkS tk.s).toList == ([112, 97, 105, 114] : List UInt8)) = false := nW [112, 97, 105, 114] HOK.out.1 (by decide) (by rw [HT.out, HSS.out]; decide)
 have q6 : ((mkS tk.s).toList == ([109, 105, 120] : List UInt8)) = false := nW [109, 105, 120] HOK.out.1 (by decide) (by rw [HT.out, HSS.out]; decide)
 have q7 : ((mkS tk.s).toList == ([105, 115, 115, 101] : List UInt8)) = false := nW [105, 115, 115, 101] HOK.out.1 (by decide) (by rw [HT.out, HSS.out]; decide)
 have q8 : ((mkS tk.s).toList == ([115, 115, 101] : List UInt8)) = true := by rw [show ([115, 115, 101] : List UInt8) = (mkS [115, 115, 101]).toList from (by rw [Lib.toList_data]; rfl), mkS_eq HOK.out.1 (by decide)]; exact decide_eq_true (by rw [HT.out, HSS.out])
 have hst := rstep_any HP.out
 rw [if_neg HK4.out] at hst
 have HM := Lib.hid (hst)
 go_wp2_with fail
 refine HM.out.mono ?_
 rintro e W2 ⟨rfl, hp, hgn⟩
 replace G1 := Lib.hid (zd G1.out hgn)
 replace R2 := Lib.hid (zc hgn R2.out HN2.out)
 clear HM HP hgn
 have HP := Lib.hid hp
 clear hp
 clear hst k1I hf0 hf1
 have HM := Lib.hid (rn_any HP.out)
 go_wp2_with fail
 refine HM.out.mono ?_
 rintro e X0 ⟨v0, m0, f0, hv0, rfl, hp, hr0, hgn⟩
 replace G1 := Lib.hid (zd G1.out hgn)
 replace R2 := Lib.hid (zc hgn R2.out HN2.out)
 clear HM HP hgn
 have HP := Lib.hid hp
 clear hp
 have HR0 := Lib.hid hr0
 clear hr0
 have HM := Lib.hid (rn_any HP.out)
 go_wp2_with fail
 refine HM.out.mono ?_
 rintro e X1 ⟨v1, m1, f1, hv1, rfl, hp, hr1, hgn⟩
 replace G1 := Lib.hid (zd G1.out hgn)
 replace R2 := Lib.hid (zc hgn R2.out HN2.out)
 clear HM HP hgn
 have HP := Lib.hid hp
 clear hp
 have HR1 := Lib.hid hr1
 clear hr1
 have HM := Lib.hid (rn_any HP.out)
 go_wp2_with fail
 refine HM.out.mono ?_
 rintro e X2 ⟨v2, m2, f2, hv2, rfl, hp, hr2, hgn⟩
 replace G1 := Lib.hid (zd G1.out hgn)
 replace R2 := Lib.hid (zc hgn R2.out HN2.out)
 clear HM HP hgn
 have HP := Lib.hid hp
 clear hp
 have HR2 := Lib.hid hr2
 clear hr2
 obtain ⟨xx, hxx⟩ : ∃ xx : PartS, xx = (⟨9, (v0 : Nat), (v1 : Nat), 0, 0, 0, (v2 : Nat)⟩ : PartS) := ⟨_, rfl⟩
 have HXX := Lib.hid hxx
 clear hxx
 have HRL : Hid (Rel part l none (⟨9, (v0 : Nat), (v1 : Nat), 0, 0, 0, (v2 : Nat)⟩ : PartS) m2 f2) := part_relN (vs := [v0, v1, v2]) (mn := false) (by rw [HSS.out]; rfl : look partL (hd l).s = some 9) (by rfl) rfl (rel_nums HR0.out (rel_nums HR1.out (rel_nums HR2.out rel_nums0))) rfl
 have b0 := R2.out.cell (show 0 < 7 by omega)
 have z0 := R2.out.frozen 0
 have b1 := R2.out.cell (show 1 < 7 by omega)
 have z1 := R2.out.frozen 1
 have b2 := R2.out.cell (show 2 < 7 by omega)
 have z2 := R2.out.frozen 2
 have b3 := R2.out.cell (show 3 < 7 by omega)
 have z3 := R2.out.frozen 3
 have b4 := R2.out.cell (show 4 < 7 by omega)
 have z4 := R2.out.frozen 4
 have b5 := R2.out.cell (show 5 < 7 by omega)
 have z5 := R2.out.frozen 5
 have b6 := R2.out.cell (show 6 < 7 by omega)
 have z6 := R2.out.frozen 6
 dsimp only [ptF, p0] at b0 b1 b2 b3 b4 b5 b6
 go_wp2_with fail
 (try simp only [Exit.inBlock, Exit.then])
 have hx0 := (za (za (za (za (za (za (za (zf X2 (some g2)) (.inl rfl) (p := ⟨g2, 0, none⟩) (.int .u8 9)) (.inl rfl) (p := ⟨g2, 1, none⟩) (.int .i64 (v0 : Nat))) (.inl rfl) (p := ⟨g2, 2, none⟩) (.int .i64 (v1 : Nat))) (.inl rfl) (p := ⟨g2, 3, none⟩) (.int .i64 0)) (.inl rfl) (p := ⟨g2, 4, none⟩) (.int .i64 0)) (.inl rfl) (p := ⟨g2, 5, none⟩) (.int .i64 0)) (.inl rfl) (p := ⟨g2, 6, none⟩) (.int .i64 (v2 : Nat)))
 have hx1 : World.rowIs (((((((X2.setCell ⟨g2, 0, none⟩ (.int .u8 9)).setCell ⟨g2, 1, none⟩ (.int .i64 (v0 : Nat))).setCell ⟨g2, 2, none⟩ (.int .i64 (v1 : Nat))).setCell ⟨g2, 3, none⟩ (.int .i64 0)).setCell ⟨g2, 4, none⟩ (.int .i64 0)).setCell ⟨g2, 5, none⟩ (.int .i64 0)).setCell ⟨g2, 6, none⟩ (.int .i64 (v2 : Nat))) g2 55 7 (ptF xx) := by rw [HXX.out]; exact pt_all (⟨9, (v0 : Nat), (v1 : Nat), 0, 0, 0, (v2 : Nat)⟩ : PartS) R2.out
 have hx2 := HP.out.kept (row := some g2) hx0 (fun k e => by injection e with e; have := HG2.out; have := HW.out; omega)
 have hx3 := (za (za (za (za (za (za (za G1.out (.inr (Nat.le_of_eq HG2.out.symm)) (p := ⟨g2, 0, none⟩) (.int .u8 9)) (.inr (Nat.le_of_eq HG2.out.symm)) (p := ⟨g2, 1, none⟩) (.int .i64 (v0 : Nat))) (.inr (Nat.le_of_eq HG2.out.symm)) (p := ⟨g2, 2, none⟩) (.int .i64 (v1 : Nat))) (.inr (Nat.le_of_eq HG2.out.symm)) (p := ⟨g2, 3, none⟩) (.int .i64 0)) (.inr (Nat.le_of_eq HG2.out.symm)) (p := ⟨g2, 4, none⟩) (.int .i64 0)) (.inr (Nat.le_of_eq HG2.out.symm)) (p := ⟨g2, 5, none⟩) (.int .i64 0)) (.inr (Nat.le_of_eq HG2.out.symm)) (p := ⟨g2, 6, none⟩) (.int .i64 (v2 : Nat)))
 clear hx0
 generalize (((((((X2.setCell ⟨g2, 0, none⟩ (.int .u8 9)).setCell ⟨g2, 1, none⟩ (.int .i64 (v0 : Nat))).setCell ⟨g2, 2, none⟩ (.int .i64 (v1 : Nat))).setCell ⟨g2, 3, none⟩ (.int .i64 0)).setCell ⟨g2, 4, none⟩ (.int .i64 0)).setCell ⟨g2, 5, none⟩ (.int .i64 0)).setCell ⟨g2, 6, none⟩ (.int .i64 (v2 : Nat))) = W99 at hx1 hx2 hx3 ⊢
 refine bodyPost_ret (pt_results rfl _ _ g2 xx rfl hx1) rfl ?_
 have hrel := HRL.out
 rw [← HXX.out] at hrel
 first | exact ⟨xx, m2, f2, rfl, hx2, hrel, hx3⟩ | exact ⟨xx, rfl, m2, f2, hx2, hrel, hx3⟩
set_option maxRecDepth 100000 in
set_option maxHeartbeats 40000000 in
theorem rpart_no (h : RS B w gp l none many) (hns : ∀ x ∈ partL.map (·.1), (hd l).s ≠ x) (hlk : look partL (hd l).s = none) : Calls Try.prog 34 #[.pointer (some ⟨gp, 0, none⟩)] w fun e w' => ∃ x l' b', e = .returned (.agg (ptA x)) ∧ RS B w' gp l' b' many ∧ Rel part l none x l' b' ∧ w.grownBy w' (some gp) := by
 have HNS := Lib.hid hns
 have HLK := Lib.hid hlk
 clear hns hlk
 have HW := Lib.hid (And.intro h.bw h.bp)
 have hb1 : Below w.heap.size w (w.alloc zZ4) := (Below.refl _ _).alloc (Nat.le_refl _) _
 have h1 := h.below hb1
 have hN1 := rnow_any h1
 obtain ⟨tk, htk⟩ : ∃ tk, tk = hd l := ⟨_, rfl⟩
 rw [← htk] at hN1
 have HN1 := Lib.hid hN1
 have HT := Lib.hid htk
 have HOK : Hid (TokOk tk) := by rw [htk]; exact h.tl.hd_ok
 have HP := Lib.hid h1
 have R2 := Lib.hid (pt_row (x := p0) (heap_alloc_new w zZ4))
 have G1 := Lib.hid (zb hb1 (some gp))
 have hf1 := tok_f1
 have hf0 := tok_f0
 clear h h1 hb1 hN1 htk
 go_enter Try.func34, Try.ntmps34
 go_wp2_with fail
 generalize w.alloc zZ4 = W1 at *
 obtain ⟨g2, hg2⟩ : ∃ g2, g2 = w.heap.size := ⟨_, rfl⟩
 rw [← hg2] at R2 ⊢
 have HG2 := Lib.hid hg2
 have HN2 : Hid (g2 ≠ gp) := by have := HW.out; unfold Hid; omega
 clear hg2
 refine HN1.out.mono ?_
 rintro e Wa ⟨rfl, hb⟩
 clear HN1
 replace HP := Lib.hid (HP.out.below hb)
 replace G1 := Lib.hid (zd G1.out (zb hb (some gp)))
 replace R2 := Lib.hid (ze hb R2.out R2.out.lt)
 clear hb
 have hN2 := rnow_any HP.out
 rw [← HT.out] at hN2
 have HN2x := Lib.hid hN2
 clear hN2
 go_wp2_with fail
 refine HN2x.out.mono ?_
 rintro e Wb ⟨rfl, hb⟩
 clear HN2x
 replace HP := Lib.hid (HP.out.below hb)
 replace G1 := Lib.hid (zd G1.out (zb hb (some gp)))
 replace R2 := Lib.hid (ze hb R2.out R2.out.lt)
 clear hb
 by_cases hk1 : tk.k = 1
 · have k1I : ((tk.k : Int) != 1) = false := by rw [hk1]; rfl
   have q0 : ((mkS tk.s).toList == ([99, 111, 110, 115, 116] : List UInt8)) = false := by rw [show ([99, 111, 110, 115, 116] : List UInt8) = (mkS [99, 111, 110, 115, 116]).toList from (by rw [Lib.toList_data]; rfl), mkS_eq HOK.out.1 (by decide)]; exact decide_eq_false (by rw [HT.out]; exact HNS.out _ (by decide))
   have q1 : ((mkS tk.s).toList == ([99, 109] : List UInt8)) = false := by rw [show ([99, 109] : List UInt8) = (mkS [99, 109]).toList from (by rw [Lib.toList_data]; rfl), mkS_eq HOK.out.1 (by decide)]; exact decide_eq_false (by rw [HT.out]; exact HNS.out _ (by decide))
   have q2 : ((mkS tk.s).toList == ([105, 99, 109] : List UInt8)) = false := by rw [show ([105, 99, 109] : List UInt8) = (mkS [105, 99, 109]).toList from (by rw [Lib.toList_data]; rfl), mkS_eq HOK.out.1 (by decide)]; exact decide_eq_false (by rw [HT.out]; exact HNS.out _ (by decide))
   have q3 : ((mkS tk.s).toList == ([109, 97, 116, 99, 104] : List UInt8)) = false := by rw [show ([109, 97, 116, 99, 104] : List UInt8) = (mkS [109, 97, 116, 99, 104]).toList from (by rw [Lib.toList_data]; rfl), mkS_eq HOK.out.1 (by decide)]; exact decide_eq_false (by rw [HT.out]; exact HNS.out _ (by decide))
   have q4 : ((mkS tk.s).toList == ([97, 118, 103] : List UInt8)) = false := by rw [show ([97, 118, 103] : List UInt8) = (mkS [97, 118, 103]).toList from (by rw [Lib.toList_data]; rfl), mkS_eq HOK.out.1 (by decide)]; exact decide_eq_false (by rw [HT.out]; exact HNS.out _ (by decide))
   have q5 : ((mkS tk.s).toList == ([112, 97, 105, 114] : List UInt8)) = false := by rw [show ([112, 97, 105, 114] : List UInt8) = (mkS [112, 97, 105, 114]).toList from (by rw [Lib.toList_data]; rfl), mkS_eq HOK.out.1 (by decide)]; exact decide_eq_false (by rw [HT.out]; exact HNS.out _ (by decide))
   have q6 : ((mkS tk.s).toList == ([109, 105, 120] : List UInt8)) = false := by rw [show ([109, 105, 120] : List UInt8) = (mkS [109, 105, 120]).toList from (by rw [Lib.toList_data]; rfl), mkS_eq HOK.out.1 (by decide)]; exact decide_eq_false (by rw [HT.out]; exact HNS.out _ (by decide))
   have q7 : ((mkS tk.s).toList == ([105, 115, 115, 101] : List UInt8)) = false := by rw [show ([105, 115, 115, 101] : List UInt8) = (mkS [105, 115, 115, 101]).toList from (by rw [Lib.toList_data]; rfl), mkS_eq HOK.out.1 (by decide)]; exact decide_eq_false (by rw [HT.out]; exact HNS.out _ (by decide))
   have q8 : ((mkS tk.s).toList == ([115, 115, 101] : List UInt8)) = false := by rw [show ([115, 115, 101] : List UInt8) = (mkS [115, 115, 101]).toList from (by rw [Lib.toList_data]; rfl), mkS_eq HOK.out.1 (by decide)]; exact decide_eq_false (by rw [HT.out]; exact HNS.out _ (by decide))
   clear hk1
   have HM := Lib.hid (rfail_any HP.out 121 (by decide))
   go_wp2_with fail
   refine HM.out.mono ?_
   rintro e W2 ⟨rfl, hp, hgn⟩
   replace G1 := Lib.hid (zd G1.out hgn)
   replace R2 := Lib.hid (zc hgn R2.out HN2.out)
   clear HM HP hgn
   have HP := Lib.hid hp
   clear hp
   clear k1I hf0 hf1
   obtain ⟨xx, hxx⟩ : ∃ xx : PartS, xx = (⟨0, 0, 0, 0, 0, 0, 0⟩ : PartS) := ⟨_, rfl⟩
   have HXX := Lib.hid hxx
   clear hxx
   have HRL : Hid (Rel part l none (⟨0, 0, 0, 0, 0, 0, 0⟩ : PartS) l (some (121, (hd l).ln))) := part_no (l' := l) HLK.out
   have b0 := R2.out.cell (show 0 < 7 by omega)
   have z0 := R2.out.frozen 0
   have b1 := R2.out.cell (show 1 < 7 by omega)
   have z1 := R2.out.frozen 1
   have b2 := R2.out.cell (show 2 < 7 by omega)
   have z2 := R2.out.frozen 2
   have b3 := R2.out.cell (show 3 < 7 by omega)
   have z3 := R2.out.frozen 3
   have b4 := R2.out.cell (show 4 < 7 by omega)
   have z4 := R2.out.frozen 4
   have b5 := R2.out.cell (show 5 < 7 by omega)
   have z5 := R2.out.frozen 5
   have b6 := R2.out.cell (show 6 < 7 by omega)
   have z6 := R2.out.frozen 6
   dsimp only [ptF, p0] at b0 b1 b2 b3 b4 b5 b6
   go_wp2_with fail
   (try simp only [Exit.inBlock, Exit.then])
   have hx0 := (za (za (za (za (za (za (za (zf W2 (some g2)) (.inl rfl) (p := ⟨g2, 0, none⟩) (.int .u8 0)) (.inl rfl) (p := ⟨g2, 1, none⟩) (.int .i64 0)) (.inl rfl) (p := ⟨g2, 2, none⟩) (.int .i64 0)) (.inl rfl) (p := ⟨g2, 3, none⟩) (.int .i64 0)) (.inl rfl) (p := ⟨g2, 4, none⟩) (.int .i64 0)) (.inl rfl) (p := ⟨g2, 5, none⟩) (.int .i64 0)) (.inl rfl) (p := ⟨g2, 6, none⟩) (.int .i64 0))
   have hx1 : World.rowIs (((((((W2.setCell ⟨g2, 0, none⟩ (.int .u8 0)).setCell ⟨g2, 1, none⟩ (.int .i64 0)).setCell ⟨g2, 2, none⟩ (.int .i64 0)).setCell ⟨g2, 3, none⟩ (.int .i64 0)).setCell ⟨g2, 4, none⟩ (.int .i64 0)).setCell ⟨g2, 5, none⟩ (.int .i64 0)).setCell ⟨g2, 6, none⟩ (.int .i64 0)) g2 55 7 (ptF xx) := by rw [HXX.out]; exact pt_all (⟨0, 0, 0, 0, 0, 0, 0⟩ : PartS) R2.out
   have hx2 := HP.out.kept (row := some g2) hx0 (fun k e => by injection e with e; have := HG2.out; have := HW.out; omega)
   have hx3 := (za (za (za (za (za (za (za G1.out (.inr (Nat.le_of_eq HG2.out.symm)) (p := ⟨g2, 0, none⟩) (.int .u8 0)) (.inr (Nat.le_of_eq HG2.out.symm)) (p := ⟨g2, 1, none⟩) (.int .i64 0)) (.inr (Nat.le_of_eq HG2.out.symm)) (p := ⟨g2, 2, none⟩) (.int .i64 0)) (.inr (Nat.le_of_eq HG2.out.symm)) (p := ⟨g2, 3, none⟩) (.int .i64 0)) (.inr (Nat.le_of_eq HG2.out.symm)) (p := ⟨g2, 4, none⟩) (.int .i64 0)) (.inr (Nat.le_of_eq HG2.out.symm)) (p := ⟨g2, 5, none⟩) (.int .i64 0)) (.inr (Nat.le_of_eq HG2.out.symm)) (p := ⟨g2, 6, none⟩) (.int .i64 0))
   clear hx0
   generalize (((((((W2.setCell ⟨g2, 0, none⟩ (.int .u8 0)).setCell ⟨g2, 1, none⟩ (.int .i64 0)).setCell ⟨g2, 2, none⟩ (.int .i64 0)).setCell ⟨g2, 3, none⟩ (.int .i64 0)).setCell ⟨g2, 4, none⟩ (.int .i64 0)).setCell ⟨g2, 5, none⟩ (.int .i64 0)).setCell ⟨g2, 6, none⟩ (.int .i64 0)) = W99 at hx1 hx2 hx3 ⊢
   refine bodyPost_ret (pt_results rfl _ _ g2 xx rfl hx1) rfl ?_
   have hrel := HRL.out
   rw [← HXX.out] at hrel
   first | exact ⟨xx, l, (some (121, (hd l).ln)), rfl, hx2, hrel, hx3⟩ | exact ⟨xx, rfl, l, (some (121, (hd l).ln)), hx2, hrel, hx3⟩
 · have k1I : ((tk.k : Int) != 1) = true := by rw [bne_iff_ne]; omega
   clear hk1
   have HM := Lib.hid (rfail_any HP.out 121 (by decide))
   go_wp2_with fail
   refine HM.out.mono ?_
   rintro e W2 ⟨rfl, hp, hgn⟩
   replace G1 := Lib.hid (zd G1.out hgn)
   replace R2 := Lib.hid (zc hgn R2.out HN2.out)
   clear HM HP hgn
   have HP := Lib.hid hp
   clear hp
   clear k1I hf0 hf1
   obtain ⟨xx, hxx⟩ : ∃ xx : PartS, xx = (⟨0, 0, 0, 0, 0, 0, 0⟩ : PartS) := ⟨_, rfl⟩
   have HXX := Lib.hid hxx
   clear hxx
   have HRL : Hid (Rel part l none (⟨0, 0, 0, 0, 0, 0, 0⟩ : PartS) l (some (121, (hd l).ln))) := part_no (l' := l) HLK.out
   have b0 := R2.out.cell (show 0 < 7 by omega)
   have z0 := R2.out.frozen 0
   have b1 := R2.out.cell (show 1 < 7 by omega)
   have z1 := R2.out.frozen 1
   have b2 := R2.out.cell (show 2 < 7 by omega)
   have z2 := R2.out.frozen 2
   have b3 := R2.out.cell (show 3 < 7 by omega)
   have z3 := R2.out.frozen 3
   have b4 := R2.out.cell (show 4 < 7 by omega)
   have z4 := R2.out.frozen 4
   have b5 := R2.out.cell (show 5 < 7 by omega)
   have z5 := R2.out.frozen 5
   have b6 := R2.out.cell (show 6 < 7 by omega)
   have z6 := R2.out.frozen 6
   dsimp only [ptF, p0] at b0 b1 b2 b3 b4 b5 b6
   go_wp2_with fail
   (try simp only [Exit.inBlock, Exit.then])
   have hx0 := (za (za (za (za (za (za (za (zf W2 (some g2)) (.inl rfl) (p := ⟨g2, 0, none⟩) (.int .u8 0)) (.inl rfl) (p := ⟨g2, 1, none⟩) (.int .i64 0)) (.inl rfl) (p := ⟨g2, 2, none⟩) (.int .i64 0)) (.inl rfl) (p := ⟨g2, 3, none⟩) (.int .i64 0)) (.inl rfl) (p := ⟨g2, 4, none⟩) (.int .i64 0)) (.inl rfl) (p := ⟨g2, 5, none⟩) (.int .i64 0)) (.inl rfl) (p := ⟨g2, 6, none⟩) (.int .i64 0))
   have hx1 : World.rowIs (((((((W2.setCell ⟨g2, 0, none⟩ (.int .u8 0)).setCell ⟨g2, 1, none⟩ (.int .i64 0)).setCell ⟨g2, 2, none⟩ (.int .i64 0)).setCell ⟨g2, 3, none⟩ (.int .i64 0)).setCell ⟨g2, 4, none⟩ (.int .i64 0)).setCell ⟨g2, 5, none⟩ (.int .i64 0)).setCell ⟨g2, 6, none⟩ (.int .i64 0)) g2 55 7 (ptF xx) := by rw [HXX.out]; exact pt_all (⟨0, 0, 0, 0, 0, 0, 0⟩ : PartS) R2.out
   have hx2 := HP.out.kept (row := some g2) hx0 (fun k e => by injection e with e; have := HG2.out; have := HW.out; omega)
   have hx3 := (za (za (za (za (za (za (za G1.out (.inr (Nat.le_of_eq HG2.out.symm)) (p := ⟨g2, 0, none⟩) (.int .u8 0)) (.inr (Nat.le_of_eq HG2.out.symm)) (p := ⟨g2, 1, none⟩) (.int .i64 0)) (.inr (Nat.le_of_eq HG2.out.symm)) (p := ⟨g2, 2, none⟩) (.int .i64 0)) (.inr (Nat.le_of_eq HG2.out.symm)) (p := ⟨g2, 3, none⟩) (.int .i64 0)) (.inr (Nat.le_of_eq HG2.out.symm)) (p := ⟨g2, 4, none⟩) (.int .i64 0)) (.inr (Nat.le_of_eq HG2.out.symm)) (p := ⟨g2, 5, none⟩) (.int .i64 0)) (.inr (Nat.le_of_eq HG2.out.symm)) (p := ⟨g2, 6, none⟩) (.int .i64 0))
   clear hx0
   generalize (((((((W2.setCell ⟨g2, 0, none⟩ (.int .u8 0)).setCell ⟨g2, 1, none⟩ (.int .i64 0)).setCell ⟨g2, 2, none⟩ (.int .i64 0)).setCell ⟨g2, 3, none⟩ (.int .i64 0)).setCell ⟨g2, 4, none⟩ (.int .i64 0)).setCell ⟨g2, 5, none⟩ (.int .i64 0)).setCell ⟨g2, 6, none⟩ (.int .i64 0)) = W99 at hx1 hx2 hx3 ⊢
   refine bodyPost_ret (pt_results rfl _ _ g2 xx rfl hx1) rfl ?_
   have hrel := HRL.out
   rw [← HXX.out] at hrel
   first | exact ⟨xx, l, (some (121, (hd l).ln)), rfl, hx2, hrel, hx3⟩ | exact ⟨xx, rfl, l, (some (121, (hd l).ln)), hx2, hrel, hx3⟩
theorem rpart_all (h : RS B w gp l none many) : Calls Try.prog 34 #[.pointer (some ⟨gp, 0, none⟩)] w fun e w' => ∃ x l' b', e = .returned (.agg (ptA x)) ∧ RS B w' gp l' b' many ∧ Rel part l none x l' b' ∧ w.grownBy w' (some gp) := by
 by_cases q1 : (hd l).s = [99, 111, 110, 115, 116]
 · by_cases hm : (hd l.tail).s = [109, 105, 110, 117, 115]
   · exact rpart_const_m h q1 hm
   · exact rpart_const_n h q1 hm
 by_cases q2 : (hd l).s = [99, 109]
 · exact rpart_cm h q2
 by_cases q3 : (hd l).s = [105, 99, 109]
 · exact rpart_icm h q3
 by_cases q4 : (hd l).s = [109, 97, 116, 99, 104]
 · exact rpart_match h q4
 by_cases q5 : (hd l).s = [97, 118, 103]
 · exact rpart_avg h q5
 by_cases q6 : (hd l).s = [112, 97, 105, 114]
 · exact rpart_pair h q6
 by_cases q7 : (hd l).s = [109, 105, 120]
 · exact rpart_mix h q7
 by_cases q8 : (hd l).s = [105, 115, 115, 101]
 · exact rpart_isse h q8
 by_cases q9 : (hd l).s = [115, 115, 101]
 · exact rpart_sse h q9
 have hns : ∀ x ∈ partL.map (·.1), (hd l).s ≠ x := by
  intro x hx
  simp only [partL, List.map_cons, List.map_nil, List.mem_cons, List.not_mem_nil, or_false] at hx
  rcases hx with rfl | rfl | rfl | rfl | rfl | rfl | rfl | rfl | rfl <;> assumption
 refine rpart_no h hns ?_
 cases hl : look partL (hd l).s with
 | none => rfl
 | some k => exact absurd rfl (hns _ (List.mem_map_of_mem (look_mem hl)))
end
end Go.Proofs.Ytiadfmhodlbkiaa
