/-
  THE WALK OF parse's part. Conditions: a parser without a fault.
-/
import Derived.Test.YthmpagehmfillaaQ19
namespace Go.Proofs.Ythmpagehmfillaa
open Go.RowKit
set_option linter.unusedSimpArgs false
set_option linter.unusedVariables false
theorem MP.to {W w : World} {b gx : Nat} {L L' : List (List Nat × Nat)} (h : MP W w b gx L) (e : L = L') : MP W w b gx L' := e ▸ h
theorem zero_pt (w : World) : (zeroValue 151).run Try.prog w = .ok (.agg #[.int .u8 0, .slice none 0 0]) w := by kernel_rfl
theorem pt_all {w : World} {g : Nat} {t : TypeId} {f : Nat → Value} (x : PartS) (h : w.rowIs g t 7 f) : (((((((w.setCell ⟨g, 0, none⟩ (.int .u8 (x.k : Nat))).setCell ⟨g, 1, none⟩ (.int .i64 x.size)).setCell ⟨g, 2, none⟩ (.int .i64 x.a)).setCell ⟨g, 3, none⟩ (.int .i64 x.b)).setCell ⟨g, 4, none⟩ (.int .i64 x.c)).setCell ⟨g, 5, none⟩ (.int .i64 x.rate)).setCell ⟨g, 6, none⟩ (.int .i64 x.limit)).rowIs g t 7 (ptF x) :=
  (((((((h.set 0 _).set 1 _).set 2 _).set 3 _).set 4 _).set 5 _).set 6 _).congr fun i hi => by
    match i, hi with
    | 0, _ => rfl
    | 1, _ => rfl
    | 2, _ => rfl
    | 3, _ => rfl
    | 4, _ => rfl
    | 5, _ => rfl
    | 6, _ => rfl
theorem part_no {l l' : List Tok} {x : PartS} (h : look partL (hd l).s = none) : Rel part l none x l' (some (121, (hd l).ln)) := by
  unfold Rel part
  simp only [h]
theorem part_rel {l l' : List Tok} {b' : Option Flt} {x : PartS} {k n : Nat} {mn : Bool} {acc : List Nat} (h : look partL (hd l).s = some k) (hm : mn = (k == 1 && decide ((hd l.tail).s = [109, 105, 110, 117, 115]))) (hn : n = partN.getD k 0)
    (hJ : NumJ (nums n (if mn = true then l.tail.tail else l.tail)) 0 l' b' acc) (hx : b' = none → x = mkPart k mn acc) : Rel part l none x l' b' := by
  unfold Rel part
  simp only [h]
  rw [← hm, ← hn]
  unfold NumJ at hJ
  cases b' with
  | some e => simp only at hJ; rw [hJ]
  | none =>
    simp only at hJ
    rw [hJ]
    simp only [numsA, nums, List.append_nil]
    exact ⟨trivial, hx rfl, trivial⟩
/-- What the loop keeps. -/
def PtR (R : Res (List Nat × List Tok)) (os : List Nat) (k : Nat) (B gp g2 g3 G many : Nat) (w wr : World) (v : Value) : Prop :=
  ∃ i l b acc, v = .int .i64 (i : Nat) ∧ i ≤ os.length ∧ acc.length = i ∧ (∀ y ∈ acc, y ≤ 65535) ∧ PS B wr gp l b many ∧ wr.rowIs g3 69 7 (ptF (putP { p0 with k := k } (os.take i) acc)) ∧ wr.rowIs g2 69 7 (ptF p0) ∧
    (∀ j (hj : j < os.length), wr.cell? ⟨G, j, none⟩ = some (.pointer (some ⟨g3, os[j], none⟩))) ∧ w.grownBy wr (some gp) ∧ NumJ R (os.length - i) l b acc
section
variable {w : World} {B gp gi : Nat} {l : List Tok} {b : Option Flt} {many : Nat}
set_option maxRecDepth 100000 in
set_option maxHeartbeats 40000000 in
theorem ppart_no (h : PS B w gp l none many) (hlk0 : look partL (hd l).s = none) : Calls Try.prog 41 #[.pointer (some ⟨gp, 0, none⟩)] w fun e w' => ∃ x l' b', e = .returned (.agg (ptA x)) ∧ PS B w' gp l' b' many ∧ Rel part l none x l' b' ∧ w.grownBy w' (some gp) := by
  have HLK0 := Lib.hid hlk0
  clear hlk0
  have HW := Lib.hid (And.intro h.bw h.bp)
  have H := Lib.hid h
  clear h
  go_enter Try.func41, Try.ntmps41
  go_wp2_with fail
  have hb1 : Below w.heap.size w (w.alloc (.cells #[.int .u8 0, .int .i64 0, .int .i64 0, .int .i64 0, .int .i64 0, .int .i64 0, .int .i64 0] 69)) := (Below.refl _ _).alloc (Nat.le_refl _) _
  have h1 := H.out.below hb1
  have hr2 := pt_row (x := p0) (heap_alloc_new w (.cells #[.int .u8 0, .int .i64 0, .int .i64 0, .int .i64 0, .int .i64 0, .int .i64 0, .int .i64 0] 69))
  have e1 : (w.alloc (.cells #[.int .u8 0, .int .i64 0, .int .i64 0, .int .i64 0, .int .i64 0, .int .i64 0, .int .i64 0] 69)).heap.size = w.heap.size + 1 := World.size_alloc _ _
  generalize w.alloc (.cells #[.int .u8 0, .int .i64 0, .int .i64 0, .int .i64 0, .int .i64 0, .int .i64 0, .int .i64 0] 69) = W1 at *
  have hb2 : Below W1.heap.size W1 (W1.alloc (.cells #[.int .u8 0, .int .i64 0, .int .i64 0, .int .i64 0, .int .i64 0, .int .i64 0, .int .i64 0] 69)) := (Below.refl _ _).alloc (Nat.le_refl _) _
  have h2 := h1.below hb2
  have hr22 := below_row hb2 hr2 hr2.lt
  have hr3 := pt_row (x := p0) (heap_alloc_new W1 (.cells #[.int .u8 0, .int .i64 0, .int .i64 0, .int .i64 0, .int .i64 0, .int .i64 0, .int .i64 0] 69))
  have hg2 := grown_of_below (hb1.trans (hb2.mono hb1.size)) (some gp)
  rw [show w.heap.size + 1 = W1.heap.size by omega]
  have HGX : Hid (W1.heap.size < (W1.alloc (.cells #[.int .u8 0, .int .i64 0, .int .i64 0, .int .i64 0, .int .i64 0, .int .i64 0, .int .i64 0] 69)).heap.size) := by unfold Hid; rw [World.size_alloc]; omega
  generalize W1.alloc (.cells #[.int .u8 0, .int .i64 0, .int .i64 0, .int .i64 0, .int .i64 0, .int .i64 0, .int .i64 0] 69) = W2 at *
  generalize W1.heap.size = g3 at *
  obtain ⟨g2, hg2e⟩ : ∃ g2, g2 = w.heap.size := ⟨_, rfl⟩
  rw [← hg2e] at hr22 e1 ⊢
  have HE := Lib.hid (And.intro hg2e e1)
  have hn2 : g2 ≠ gp := by have := HW.out; omega
  have hn3 : g3 ≠ gp := by have := HW.out; omega
  have HN2 := Lib.hid hn2
  have HN3 := Lib.hid hn3
  obtain ⟨g, o, c, q1, q2, q3, q4, q5, q6⟩ := h2.ex
  obtain ⟨t0, t1, t2, t3⟩ := q6.head h2.tl
  have f0 := q1.cell (show 0 < 4 by omega)
  dsimp only [psF] at f0
  have hl : 0 < l.length := List.length_pos_iff.2 h2.tl.ne
  have hlI : (0 : Int) < l.length := by omega
  obtain ⟨s, hs⟩ : ∃ s, s = (hd l).s := ⟨_, rfl⟩
  rw [← hs] at t1
  have hs8 : B8 s := by rw [hs]; exact h2.tl.hd_ok.1
  have HS := Lib.hid hs
  have F0 := Lib.hid f0
  have T1 := Lib.hid t1
  have H2 := Lib.hid h2
  have HR2 := Lib.hid hr22
  have HR3 := Lib.hid hr3
  have HG2 := Lib.hid hg2
  clear H hb1 h1 hr2 hb2 h2 hr22 hr3 hg2 hg2e e1 hn2 hn3 q1 q6 t0 t2 t3 hs W1
  have hmm := @run_makeMap Try.prog
  rw [hmm]
  go_simp
  have hMP := MP.made W2 g3
  generalize W2.alloc (.map #[] 0) = WX at *
  generalize hgm : W2.heap.size = gm at *
  have HGM := Lib.hid hgm
  have HGX2 : Hid (g3 < W2.heap.size) := by unfold Hid; rw [hgm]; exact HGX.out
  clear hgm f0 t1
  have f0 := (hMP.be.cell (World.block_lt_of_cell? _ _ F0.out)).trans F0.out
  have t1 := (hMP.be.cell (World.block_lt_of_cell? _ _ T1.out)).trans T1.out
  have HMM : Hid (gp < gm) := by unfold Hid; have := HW.out; have := HE.out; have := HGX2.out; have := HGM.out; omega
  have hlk : look partL s = none := HS.out ▸ HLK0.out
  have HLK := Lib.hid hlk
  go_wp2_with (first
    | (refine wpList_insP rfl _ _ _ _ rfl 9 151 Try.underlying152 Try.underlying9 rfl hMP _ rfl _ _ (by rfl) (by rfl) (by rfl) HGX2.out ?_; clear hMP f0 t1; intro WX hMP; have f0 := (hMP.be.cell (World.block_lt_of_cell? _ _ F0.out)).trans F0.out; have t1 := (hMP.be.cell (World.block_lt_of_cell? _ _ T1.out)).trans T1.out)
    | (refine wpList_lookP rfl _ _ _ rfl 9 151 Try.underlying152 Try.underlying9 _ zero_pt rfl (hMP.to (by kernel_rfl : _ = partL)) s hs8 rfl ?_; rw [hlk]; dsimp only; skip))
  have hbY : Below W2.heap.size W2 (WX.alloc (.cells #[.int .u8 0, .slice none 0 0] 151)) := hMP.be.alloc hMP.be.size _
  have h7 := H2.out.below hbY
  have HC := Lib.hid (pfail_any h7 121 (by decide))
  have HR2Y := Lib.hid (below_row hbY HR2.out HR2.out.lt)
  have HR3Y := Lib.hid (below_row hbY HR3.out HR3.out.lt)
  have HGY := Lib.hid (nil_grown HG2.out (grown_of_below hbY (some gp)))
  clear hbY h7 hMP f0 t1 hlk
  go_wp2_with fail
  refine HC.out.mono ?_
  rintro e W6 ⟨rfl, h6, hgn⟩
  have hg := nil_grown HGY.out hgn
  have r2 := grown_row hgn HR2Y.out HN2.out
  have r3 := grown_row hgn HR3Y.out HN3.out
  clear hgn HC
  obtain ⟨xx, hxx⟩ : ∃ xx : PartS, xx = p0 := ⟨_, rfl⟩
  rw [← hxx] at r3
  clear hxx
  have H6 := Lib.hid h6
  have HG := Lib.hid hg
  have HR2' := Lib.hid r2
  have a0 := r3.cell (show 0 < 7 by omega)
  have a1 := r3.cell (show 1 < 7 by omega)
  have a2 := r3.cell (show 2 < 7 by omega)
  have a3 := r3.cell (show 3 < 7 by omega)
  have a4 := r3.cell (show 4 < 7 by omega)
  have a5 := r3.cell (show 5 < 7 by omega)
  have a6 := r3.cell (show 6 < 7 by omega)
  have b0 := r2.cell (show 0 < 7 by omega)
  have b1 := r2.cell (show 1 < 7 by omega)
  have b2 := r2.cell (show 2 < 7 by omega)
  have b3 := r2.cell (show 3 < 7 by omega)
  have b4 := r2.cell (show 4 < 7 by omega)
  have b5 := r2.cell (show 5 < 7 by omega)
  have b6 := r2.cell (show 6 < 7 by omega)
  have z0 := r2.frozen 0
  have z1 := r2.frozen 1
  have z2 := r2.frozen 2
  have z3 := r2.frozen 3
  have z4 := r2.frozen 4
  have z5 := r2.frozen 5
  have z6 := r2.frozen 6
  dsimp only [ptF] at a0 a1 a2 a3 a4 a5 a6 b0 b1 b2 b3 b4 b5 b6
  clear h6 hg r3 r2
  go_wp2_with fail
  (try simp only [Exit.inBlock, Exit.then])
  have hx0 := (grown_set (grown_set (grown_set (grown_set (grown_set (grown_set (grown_set (grown_refl W6 (some g2)) (.inl rfl) (p := ⟨g2, 0, none⟩) (.int .u8 (xx.k : Nat))) (.inl rfl) (p := ⟨g2, 1, none⟩) (.int .i64 xx.size)) (.inl rfl) (p := ⟨g2, 2, none⟩) (.int .i64 xx.a)) (.inl rfl) (p := ⟨g2, 3, none⟩) (.int .i64 xx.b)) (.inl rfl) (p := ⟨g2, 4, none⟩) (.int .i64 xx.c)) (.inl rfl) (p := ⟨g2, 5, none⟩) (.int .i64 xx.rate)) (.inl rfl) (p := ⟨g2, 6, none⟩) (.int .i64 xx.limit))
  have hx1 := pt_all xx HR2'.out
  have hx2 := H6.out.kept (row := some g2) hx0 (fun k e => by injection e with e; have := HE.out; have := HW.out; omega)
  have hx3 := (grown_set (grown_set (grown_set (grown_set (grown_set (grown_set (grown_set HG.out (.inr (Nat.le_of_eq HE.out.1.symm)) (p := ⟨g2, 0, none⟩) (.int .u8 (xx.k : Nat))) (.inr (Nat.le_of_eq HE.out.1.symm)) (p := ⟨g2, 1, none⟩) (.int .i64 xx.size)) (.inr (Nat.le_of_eq HE.out.1.symm)) (p := ⟨g2, 2, none⟩) (.int .i64 xx.a)) (.inr (Nat.le_of_eq HE.out.1.symm)) (p := ⟨g2, 3, none⟩) (.int .i64 xx.b)) (.inr (Nat.le_of_eq HE.out.1.symm)) (p := ⟨g2, 4, none⟩) (.int .i64 xx.c)) (.inr (Nat.le_of_eq HE.out.1.symm)) (p := ⟨g2, 5, none⟩) (.int .i64 xx.rate)) (.inr (Nat.le_of_eq HE.out.1.symm)) (p := ⟨g2, 6, none⟩) (.int .i64 xx.limit))
  clear hx0
  generalize (World.setCell (World.setCell (World.setCell (World.setCell (World.setCell (World.setCell (World.setCell W6 ⟨g2, 0, none⟩ (.int .u8 (xx.k : Nat))) ⟨g2, 1, none⟩ (.int .i64 xx.size)) ⟨g2, 2, none⟩ (.int .i64 xx.a)) ⟨g2, 3, none⟩ (.int .i64 xx.b)) ⟨g2, 4, none⟩ (.int .i64 xx.c)) ⟨g2, 5, none⟩ (.int .i64 xx.rate)) ⟨g2, 6, none⟩ (.int .i64 xx.limit)) = W99 at hx1 hx2 hx3 ⊢
  refine bodyPost_ret (pt_results rfl _ _ g2 xx rfl hx1) rfl ?_
  have hrel := part_no (x := xx) (l' := l) (HS.out ▸ HLK.out)
  first | exact ⟨xx, l, _, rfl, hx2, hrel, hx3⟩ | exact ⟨xx, rfl, l, _, hx2, hrel, hx3⟩ | exact ⟨xx, rfl, l, _, hx2, hrel, hx3⟩
set_option maxRecDepth 100000 in
set_option maxHeartbeats 40000000 in
theorem ppart_yes (h : PS B w gp l none many) {k : Nat} (hlk0 : look partL (hd l).s = some k) : Calls Try.prog 41 #[.pointer (some ⟨gp, 0, none⟩)] w fun e w' => ∃ x l' b', e = .returned (.agg (ptA x)) ∧ PS B w' gp l' b' many ∧ Rel part l none x l' b' ∧ w.grownBy w' (some gp) := by
  have HLK0 := Lib.hid hlk0
  clear hlk0
  have HW := Lib.hid (And.intro h.bw h.bp)
  have H := Lib.hid h
  clear h
  go_enter Try.func41, Try.ntmps41
  go_wp2_with fail
  have hb1 : Below w.heap.size w (w.alloc (.cells #[.int .u8 0, .int .i64 0, .int .i64 0, .int .i64 0, .int .i64 0, .int .i64 0, .int .i64 0] 69)) := (Below.refl _ _).alloc (Nat.le_refl _) _
  have h1 := H.out.below hb1
  have hr2 := pt_row (x := p0) (heap_alloc_new w (.cells #[.int .u8 0, .int .i64 0, .int .i64 0, .int .i64 0, .int .i64 0, .int .i64 0, .int .i64 0] 69))
  have e1 : (w.alloc (.cells #[.int .u8 0, .int .i64 0, .int .i64 0, .int .i64 0, .int .i64 0, .int .i64 0, .int .i64 0] 69)).heap.size = w.heap.size + 1 := World.size_alloc _ _
  generalize w.alloc (.cells #[.int .u8 0, .int .i64 0, .int .i64 0, .int .i64 0, .int .i64 0, .int .i64 0, .int .i64 0] 69) = W1 at *
  have hb2 : Below W1.heap.size W1 (W1.alloc (.cells #[.int .u8 0, .int .i64 0, .int .i64 0, .int .i64 0, .int .i64 0, .int .i64 0, .int .i64 0] 69)) := (Below.refl _ _).alloc (Nat.le_refl _) _
  have h2 := h1.below hb2
  have hr22 := below_row hb2 hr2 hr2.lt
  have hr3 := pt_row (x := p0) (heap_alloc_new W1 (.cells #[.int .u8 0, .int .i64 0, .int .i64 0, .int .i64 0, .int .i64 0, .int .i64 0, .int .i64 0] 69))
  have hg2 := grown_of_below (hb1.trans (hb2.mono hb1.size)) (some gp)
  rw [show w.heap.size + 1 = W1.heap.size by omega]
  have HGX : Hid (W1.heap.size < (W1.alloc (.cells #[.int .u8 0, .int .i64 0, .int .i64 0, .int .i64 0, .int .i64 0, .int .i64 0, .int .i64 0] 69)).heap.size) := by unfold Hid; rw [World.size_alloc]; omega
  generalize W1.alloc (.cells #[.int .u8 0, .int .i64 0, .int .i64 0, .int .i64 0, .int .i64 0, .int .i64 0, .int .i64 0] 69) = W2 at *
  generalize W1.heap.size = g3 at *
  obtain ⟨g2, hg2e⟩ : ∃ g2, g2 = w.heap.size := ⟨_, rfl⟩
  rw [← hg2e] at hr22 e1 ⊢
  have HE := Lib.hid (And.intro hg2e e1)
  have hn2 : g2 ≠ gp := by have := HW.out; omega
  have hn3 : g3 ≠ gp := by have := HW.out; omega
  have HN2 := Lib.hid hn2
  have HN3 := Lib.hid hn3
  obtain ⟨g, o, c, q1, q2, q3, q4, q5, q6⟩ := h2.ex
  obtain ⟨t0, t1, t2, t3⟩ := q6.head h2.tl
  have f0 := q1.cell (show 0 < 4 by omega)
  dsimp only [psF] at f0
  have hl : 0 < l.length := List.length_pos_iff.2 h2.tl.ne
  have hlI : (0 : Int) < l.length := by omega
  obtain ⟨s, hs⟩ : ∃ s, s = (hd l).s := ⟨_, rfl⟩
  rw [← hs] at t1
  have hs8 : B8 s := by rw [hs]; exact h2.tl.hd_ok.1
  have HS := Lib.hid hs
  have F0 := Lib.hid f0
  have T1 := Lib.hid t1
  have H2 := Lib.hid h2
  have HR2 := Lib.hid hr22
  have HR3 := Lib.hid hr3
  have HG2 := Lib.hid hg2
  clear H hb1 h1 hr2 hb2 h2 hr22 hr3 hg2 hg2e e1 hn2 hn3 q1 q6 t0 t2 t3 hs W1
  have hmm := @run_makeMap Try.prog
  rw [hmm]
  go_simp
  have hMP := MP.made W2 g3
  generalize W2.alloc (.map #[] 0) = WX at *
  generalize hgm : W2.heap.size = gm at *
  have HGM := Lib.hid hgm
  have HGX2 : Hid (g3 < W2.heap.size) := by unfold Hid; rw [hgm]; exact HGX.out
  clear hgm f0 t1
  have f0 := (hMP.be.cell (World.block_lt_of_cell? _ _ F0.out)).trans F0.out
  have t1 := (hMP.be.cell (World.block_lt_of_cell? _ _ T1.out)).trans T1.out
  have HMM : Hid (gp < gm) := by unfold Hid; have := HW.out; have := HE.out; have := HGX2.out; have := HGM.out; omega
  have hlk : look partL s = some k := HS.out ▸ HLK0.out
  have HLK := Lib.hid hlk
  have HK := Lib.hid (partL_lt hlk)
  have HK4 : Hid ((hd l).k ≠ 4) := (H2.out.tl.hd_s (by rw [← HS.out]; exact HK.out.1)).1
  go_wp2_with (first
    | (refine wpList_insP rfl _ _ _ _ rfl 9 151 Try.underlying152 Try.underlying9 rfl hMP _ rfl _ _ (by rfl) (by rfl) (by rfl) HGX2.out ?_; clear hMP f0 t1; intro WX hMP; have f0 := (hMP.be.cell (World.block_lt_of_cell? _ _ F0.out)).trans F0.out; have t1 := (hMP.be.cell (World.block_lt_of_cell? _ _ T1.out)).trans T1.out)
    | (refine wpList_lookP rfl _ _ _ rfl 9 151 Try.underlying152 Try.underlying9 _ zero_pt rfl (hMP.to (by kernel_rfl : _ = partL)) s hs8 rfl ?_; rw [hlk]; dsimp only; (intro vv hvv; obtain ⟨G, rfl, hG1, hG2, hG3, hG4⟩ := hvv)))
  have hlen := offP_len HK.out.2.1 HK.out.2.2
  obtain ⟨os, hos⟩ : ∃ os, os = offP k := ⟨_, rfl⟩
  rw [← hos] at hlen hG4 ⊢
  have HO := Lib.hid hos
  have HLEN := Lib.hid hlen
  have HG1 := Lib.hid hG1
  have HG2' : Hid (gp < G) := by have := HMM.out; unfold Hid; omega
  have HG3' : Hid (g3 < G ∧ g2 < G) := by have := HE.out; unfold Hid; omega
  have hbX := hMP.be
  have hltG : G < WX.heap.size := hG1
  have HGC := Lib.hid hG4
  clear hMP hos hlen hG1 hG2 hG3 hG4 f0 t1 hlk
  have hbn : Below WX.heap.size WX (WX.alloc (.cells #[.int .u8 k, .slice (some ⟨G, 0, none⟩) os.length os.length] 151)) := (Below.refl _ _).alloc (Nat.le_refl _) _
  have hbY := hbX.trans (hbn.mono hbX.size)
  have h7 := H2.out.below hbY
  have hst := pstep_any h7
  rw [if_neg HK4.out] at hst
  have HC := Lib.hid hst
  have HR2Y := Lib.hid (below_row hbY HR2.out HR2.out.lt)
  have HR3Y := Lib.hid (below_row hbY HR3.out HR3.out.lt)
  have HGY := Lib.hid (nil_grown HG2.out (grown_of_below hbY (some gp)))
  have HGCY : Hid (∀ j (hj : j < os.length), (WX.alloc (.cells #[.int .u8 k, .slice (some ⟨G, 0, none⟩) os.length os.length] 151)).cell? ⟨G, j, none⟩ = some (.pointer (some ⟨g3, os[j], none⟩))) := fun j hj => (World.cell?_of_block (hbn.block G hltG)).trans (HGC.out j hj)
  have H50 : Hid ((WX.alloc (.cells #[.int .u8 k, .slice (some ⟨G, 0, none⟩) os.length os.length] 151)).cell? ⟨WX.heap.size, 0, none⟩ = some (.int .u8 k)) := by unfold Hid; rw [cell_of_row _ _ _ _ _ _ (heap_alloc_new WX _)]; rfl
  have H51 : Hid ((WX.alloc (.cells #[.int .u8 k, .slice (some ⟨G, 0, none⟩) os.length os.length] 151)).cell? ⟨WX.heap.size, 1, none⟩ = some (.slice (some ⟨G, 0, none⟩) os.length os.length)) := by unfold Hid; rw [cell_of_row _ _ _ _ _ _ (heap_alloc_new WX _)]; rfl
  have HN5 : Hid (WX.heap.size ≠ gp) := by have := HG2'.out; unfold Hid; omega
  have HN35 : Hid (g3 ≠ WX.heap.size) := by have := HG3'.out; unfold Hid; omega
  have HLT : Hid (G < (WX.alloc (.cells #[.int .u8 k, .slice (some ⟨G, 0, none⟩) os.length os.length] 151)).heap.size) := by unfold Hid; rw [World.size_alloc]; omega
  clear hbY h7 hbX hbn hltG hst HG1
  go_wp2_with fail
  refine HC.out.mono ?_
  rintro e W6 ⟨rfl, h6, hgn⟩
  have HG6 := Lib.hid (nil_grown HGY.out hgn)
  have r2 := grown_row hgn HR2Y.out HN2.out
  have r3 := grown_row hgn HR3Y.out HN3.out
  have d0 := hgn.cell H50.out (fun e => by injection e with e; exact HN5.out e)
  have d1 := hgn.cell H51.out (fun e => by injection e with e; exact HN5.out e)
  have HGC6 : Hid (∀ j (hj : j < os.length), W6.cell? ⟨G, j, none⟩ = some (.pointer (some ⟨g3, os[j], none⟩))) := fun j hj => hgn.cell (HGCY.out j hj) (fun e => by injection e with e; have e' : G = gp := e; have h2 : gp < G := HG2'.out; omega)
  have HLT6 : Hid (G < W6.heap.size) := Nat.lt_of_lt_of_le HLT.out hgn.size
  generalize WX.heap.size = g5 at *
  have HR2 := Lib.hid r2
  have HR3' := Lib.hid r3
  have H6 := Lib.hid h6
  have a0 := r3.cell (show 0 < 7 by omega)
  have z0 := r3.frozen 0
  dsimp only [ptF, p0] at a0
  clear HC HR2Y HR3Y HGY HGCY H50 H51 HLT HGC hgn r2 r3 h6
  have r3 := pt_setK HR3'.out k
  have hgs : W6.grownBy (W6.setCell ⟨g3, 0, none⟩ (.int .u8 k)) (some g3) := grown_set (grown_refl _ _) (.inl rfl) _
  have r2 := grown_row hgs HR2.out (by have := HE.out; omega)
  have d1' := grown_cell hgs (p := ⟨g5, 1, none⟩) (World.block_lt_of_cell? _ _ d1) (fun e => HN35.out e.symm)
  have HGA := Lib.hid (grown_set HG6.out (.inr (by have := HE.out; show w.heap.size ≤ g3; omega)) (p := ⟨g3, 0, none⟩) (.int .u8 (k : Nat)))
  have h6A := H6.out.off (p := ⟨g3, 0, none⟩) (by have := HE.out; have := HW.out; show B ≤ g3; omega) (.int .u8 (k : Nat))
  have HGCA : Hid (∀ j (hj : j < os.length), (W6.setCell ⟨g3, 0, none⟩ (.int .u8 (k : Nat))).cell? ⟨G, j, none⟩ = some (.pointer (some ⟨g3, os[j], none⟩))) := fun j hj => (grown_cell hgs (p := ⟨G, j, none⟩) HLT6.out (fun e => by have e' : G = g3 := e; have h2 : g3 < G := HG3'.out.1; omega)).trans (HGC6.out j hj)
  have HLTA : Hid (G < (W6.setCell ⟨g3, 0, none⟩ (.int .u8 (k : Nat))).heap.size) := Nat.lt_of_lt_of_le HLT6.out hgs.size
  have d1'' := d1'.trans d1
  have k0 : (W6.setCell ⟨g3, 0, none⟩ (.int .u8 (k : Nat))).cell? ⟨g3, 0, none⟩ = some (.int .u8 k) := r3.cell (show 0 < 7 by omega)
  have HR2A := Lib.hid r2
  have HR3A := Lib.hid r3
  have HPA := Lib.hid h6A
  have HK0 := Lib.hid k0
  have HD1 := Lib.hid d1''
  clear hgs r2 r3 h6A d1' d1 HR2 HR3' H6 HG6 HGC6 HLT6
  by_cases hk1 : k = 1
  · have hkI : ((k : Int) == 1) = true := by rw [beq_iff_eq]; omega
    have HK1 := Lib.hid hk1
    have HM := Lib.hid (pmay_any HPA.out ⟨#[109, 105, 110, 117, 115]⟩ [109, 105, 110, 117, 115] rfl (by decide) (by decide))
    clear hk1
    go_wp2_with fail
    refine HM.out.mono ?_
    rintro e W8 ⟨mn, hmn, rfl, h8, hgn⟩
    have hmn' : mn = (k == 1 && decide ((hd l.tail).s = [109, 105, 110, 117, 115])) := by rw [hmn, HK1.out]; rfl
    have h9 : PS B W8 gp (if mn = true then l.tail.tail else l.tail) none many := h8
    have HMN := Lib.hid hmn'
    have HP9 := Lib.hid h9
    have HG9 := Lib.hid (nil_grown HGA.out hgn)
    have HR29 := Lib.hid (grown_row hgn HR2A.out HN2.out)
    have HR39 := Lib.hid (grown_row hgn HR3A.out HN3.out)
    have d9 := hgn.cell HD1.out (fun e => by injection e with e; exact HN5.out e)
    have HGC9 : Hid (∀ j (hj : j < os.length), W8.cell? ⟨G, j, none⟩ = some (.pointer (some ⟨g3, os[j], none⟩))) := fun j hj => hgn.cell (HGCA.out j hj) (fun e => by injection e with e; have e' : G = gp := e; have h2 : gp < G := HG2'.out; omega)
    clear hkI HM hmn hmn' h8 h9 hgn HPA HGA HR2A HR3A HD1 d1'' k0 HK0 HGCA HLTA a0 z0 d0
    obtain ⟨l2, hl2⟩ : ∃ l2, l2 = if mn = true then l.tail.tail else l.tail := ⟨_, rfl⟩
    rw [← hl2] at HP9
    have HL2 := Lib.hid hl2
    clear hl2
    have R0 : PtR (nums os.length l2) os k B gp g2 g3 G many w W8 (.int .i64 0) := ⟨0, l2, none, [], rfl, Nat.zero_le _, rfl, (fun y hy => by cases hy), HP9.out, HR39.out, HR29.out, HGC9.out, HG9.out, (numsA_nil _ _).symm⟩
    clear HP9 HR39 HR29 HGC9 HG9
    go_wp2_with fail
    clear d9
    go_loopw [83] (fun v wr => PtR (nums os.length l2) os k B gp g2 g3 G many w wr v) (fun v _ => os.length - (intOf v).toNat)
    case atStart => exact R0
    case round =>
      clear R0
      obtain ⟨i, li, bi, acc, rfl, hi, hacc, h65, hp, hr3, hr2, hgc, hg, hJ⟩ := hrel
      have HP := Lib.hid hp
      have HR3 := Lib.hid hr3
      have HR2 := Lib.hid hr2
      have HGC := Lib.hid hgc
      have HG := Lib.hid hg
      have HJ := Lib.hid hJ
      have HAC := Lib.hid hacc
      have H65 := Lib.hid h65
      clear hp hr3 hr2 hgc hg hJ hacc h65
      by_cases hlt : i < os.length
      · have hltI : (i : Int) < os.length := by omega
        have hi0 : (0 : Int) ≤ i := by omega
        obtain ⟨oo, hoo⟩ : ∃ oo, oo = os[i] := ⟨_, rfl⟩
        have hgi := HGC.out i hlt
        rw [← hoo] at hgi
        have hob := HLEN.out.2 oo (by rw [hoo]; exact List.getElem_mem hlt)
        have HOO := Lib.hid (And.intro hoo hob)
        have HC := Lib.hid (pnum_any HP.out 65535 (by omega))
        have h4 : os.length ≤ 4 := by rw [HO.out]; exact offP_sz k
        have hwi : IntKind.i64.wrap ((i : Int) + 1) = ((i + 1 : Nat) : Int) := by rw [IntKind.wrap_i64]; omega; all_goals omega
        have htn : ((i : Int)).toNat = i := by omega
        clear hoo hob
        go_wp2_with fail
        refine HC.out.mono ?_
        rintro e W9 ⟨n, l', b', hn, rfl, h9, hrn, hgn⟩
        have HRN := Lib.hid hrn
        have HG9 := Lib.hid (nil_grown HG.out hgn)
        have r2 := grown_row hgn HR2.out HN2.out
        have r3 := grown_row hgn HR3.out HN3.out
        have HGC9 : Hid (∀ j (hj : j < os.length), W9.cell? ⟨G, j, none⟩ = some (.pointer (some ⟨g3, os[j], none⟩))) := fun j hj => hgn.cell (HGC.out j hj) (fun e => by injection e with e; have e' : G = gp := e; have h2 : gp < G := HG2'.out; omega)
        have HLT9 : Hid (G < W9.heap.size) := World.block_lt_of_cell? _ _ (HGC9.out i hlt)
        obtain ⟨cv, hcv⟩ := pt_cellP (x := putP { p0 with k := k } (os.take i) acc) HOO.out.2.1 HOO.out.2.2
        have a1 := r3.cell (show oo < 7 by have := HOO.out.2.2; omega)
        rw [hcv] at a1
        have z1 := r3.frozen oo
        have HR3' := Lib.hid r3
        have HR2' := Lib.hid r2
        have H9 := Lib.hid h9
        have HN65 := Lib.hid hn
        clear hrn hgn r2 r3 h9 hcv hn HC HGC
        go_wp2_with fail
        refine ⟨?_, ?_⟩
        · have hgs : W9.grownBy (W9.setCell ⟨g3, oo, none⟩ (.int .i64 (n : Nat))) (some g3) := grown_set (grown_refl _ _) (.inl rfl) _
          have htake : os.take (i + 1) = os.take i ++ [oo] := by rw [HOO.out.1, List.take_succ_eq_append_getElem hlt]
          refine ⟨i + 1, l', b', acc ++ [n], rfl, hlt, by rw [List.length_append, HAC.out]; rfl, ?_, H9.out.off (p := ⟨g3, oo, none⟩) (by have := HE.out; have := HW.out; show B ≤ g3; omega) _, ?_, grown_row hgs HR2'.out (by have := HE.out; omega), ?_, grown_set HG9.out (.inr (by have := HE.out; show w.heap.size ≤ g3; omega)) _, ?_⟩
          · intro y hy
            rcases List.mem_append.1 hy with hy | hy
            · exact H65.out y hy
            · rw [List.mem_singleton.1 hy]; exact HN65.out
          · rw [htake, putP_snoc _ _ _ _ _ (by rw [List.length_take, HAC.out]; omega)]
            exact pt_setP HR3'.out HOO.out.2.1 HOO.out.2.2 _
          · intro j hj
            exact (grown_cell hgs (p := ⟨G, j, none⟩) HLT9.out (fun e => by have e' : G = g3 := e; have h2 : g3 < G := HG3'.out.1; omega)).trans (HGC9.out j hj)
          · have hJ := HJ.out
            rw [show os.length - i = (os.length - (i + 1)) + 1 by omega] at hJ
            exact numJ_go hJ HRN.out
        · show os.length - (i + 1 : Nat) < os.length - i
          omega
      · have hltI : ¬ (i : Int) < os.length := by omega
        have hie : i = os.length := by omega
        subst hie
        cases mn with
        | false =>
          have hx : putP { p0 with k := k } (os.take os.length) acc = putP { p0 with k := k } (offP k) acc := by rw [List.take_length, HO.out]
          obtain ⟨xx, hxx⟩ : ∃ xx, xx = putP { p0 with k := k } (os.take os.length) acc := ⟨_, rfl⟩
          have r3 := HR3.out
          rw [← hxx] at r3
          have hmk : xx = mkPart k false acc := by rw [hxx, hx]; exact putP_mk HK.out.2.1 HK.out.2.2 (by rw [HAC.out, HO.out]) false (fun e => by cases e)
          have HMK := Lib.hid hmk
          have hJ := HJ.out
          rw [Nat.sub_self, HL2.out] at hJ
          have HJ0 := Lib.hid hJ
          have h6 := HP.out
          have hg := HG.out
          have r2 := HR2.out
          clear hx hxx hmk hJ HP HG HR2 HR3 HJ HGC
          have H6 := Lib.hid h6
          have HG := Lib.hid hg
          have HR2' := Lib.hid r2
          have a0 := r3.cell (show 0 < 7 by omega)
          have a1 := r3.cell (show 1 < 7 by omega)
          have a2 := r3.cell (show 2 < 7 by omega)
          have a3 := r3.cell (show 3 < 7 by omega)
          have a4 := r3.cell (show 4 < 7 by omega)
          have a5 := r3.cell (show 5 < 7 by omega)
          have a6 := r3.cell (show 6 < 7 by omega)
          have b0 := r2.cell (show 0 < 7 by omega)
          have b1 := r2.cell (show 1 < 7 by omega)
          have b2 := r2.cell (show 2 < 7 by omega)
          have b3 := r2.cell (show 3 < 7 by omega)
          have b4 := r2.cell (show 4 < 7 by omega)
          have b5 := r2.cell (show 5 < 7 by omega)
          have b6 := r2.cell (show 6 < 7 by omega)
          have z0 := r2.frozen 0
          have z1 := r2.frozen 1
          have z2 := r2.frozen 2
          have z3 := r2.frozen 3
          have z4 := r2.frozen 4
          have z5 := r2.frozen 5
          have z6 := r2.frozen 6
          dsimp only [ptF] at a0 a1 a2 a3 a4 a5 a6 b0 b1 b2 b3 b4 b5 b6
          clear h6 hg r3 r2
          go_wp2_with fail
          (try simp only [Exit.inBlock, Exit.then])
          have hx0 := (grown_set (grown_set (grown_set (grown_set (grown_set (grown_set (grown_set (grown_refl wr (some g2)) (.inl rfl) (p := ⟨g2, 0, none⟩) (.int .u8 (xx.k : Nat))) (.inl rfl) (p := ⟨g2, 1, none⟩) (.int .i64 xx.size)) (.inl rfl) (p := ⟨g2, 2, none⟩) (.int .i64 xx.a)) (.inl rfl) (p := ⟨g2, 3, none⟩) (.int .i64 xx.b)) (.inl rfl) (p := ⟨g2, 4, none⟩) (.int .i64 xx.c)) (.inl rfl) (p := ⟨g2, 5, none⟩) (.int .i64 xx.rate)) (.inl rfl) (p := ⟨g2, 6, none⟩) (.int .i64 xx.limit))
          have hx1 := pt_all xx HR2'.out
          have hx2 := H6.out.kept (row := some g2) hx0 (fun k e => by injection e with e; have := HE.out; have := HW.out; omega)
          have hx3 := (grown_set (grown_set (grown_set (grown_set (grown_set (grown_set (grown_set HG.out (.inr (Nat.le_of_eq HE.out.1.symm)) (p := ⟨g2, 0, none⟩) (.int .u8 (xx.k : Nat))) (.inr (Nat.le_of_eq HE.out.1.symm)) (p := ⟨g2, 1, none⟩) (.int .i64 xx.size)) (.inr (Nat.le_of_eq HE.out.1.symm)) (p := ⟨g2, 2, none⟩) (.int .i64 xx.a)) (.inr (Nat.le_of_eq HE.out.1.symm)) (p := ⟨g2, 3, none⟩) (.int .i64 xx.b)) (.inr (Nat.le_of_eq HE.out.1.symm)) (p := ⟨g2, 4, none⟩) (.int .i64 xx.c)) (.inr (Nat.le_of_eq HE.out.1.symm)) (p := ⟨g2, 5, none⟩) (.int .i64 xx.rate)) (.inr (Nat.le_of_eq HE.out.1.symm)) (p := ⟨g2, 6, none⟩) (.int .i64 xx.limit))
          clear hx0
          generalize (World.setCell (World.setCell (World.setCell (World.setCell (World.setCell (World.setCell (World.setCell wr ⟨g2, 0, none⟩ (.int .u8 (xx.k : Nat))) ⟨g2, 1, none⟩ (.int .i64 xx.size)) ⟨g2, 2, none⟩ (.int .i64 xx.a)) ⟨g2, 3, none⟩ (.int .i64 xx.b)) ⟨g2, 4, none⟩ (.int .i64 xx.c)) ⟨g2, 5, none⟩ (.int .i64 xx.rate)) ⟨g2, 6, none⟩ (.int .i64 xx.limit)) = W99 at hx1 hx2 hx3 ⊢
          refine bodyPost_ret (pt_results rfl _ _ g2 xx rfl hx1) rfl ?_
          have hrel := part_rel (b' := bi) (x := xx) HLK0.out HMN.out (by rw [HO.out]; exact (offP_len HK.out.2.1 HK.out.2.2).1) HJ0.out (fun _ => HMK.out)
          first | exact ⟨xx, li, bi, rfl, hx2, hrel, hx3⟩ | exact ⟨xx, rfl, li, bi, hx2, hrel, hx3⟩ | exact ⟨xx, rfl, li, _, hx2, hrel, hx3⟩
        | true =>
          have hc := HK1.out
          subst hc
          obtain ⟨cv, rfl⟩ := len1 (by rw [HAC.out, HO.out]; rfl : acc.length = 1)
          have hx : putP { p0 with k := 1 } (os.take os.length) [cv] = ⟨1, 0, 0, 0, cv, 0, 0⟩ := by rw [List.take_length, HO.out]; rfl
          have hcv := H65.out cv (List.mem_singleton.2 rfl)
          have r3 := HR3.out
          rw [hx] at r3
          have a4' := r3.cell (show 4 < 7 by omega)
          have z4' := r3.frozen 4
          dsimp only [ptF] at a4'
          have hwn : IntKind.i64.wrap (-(cv : Int)) = -(cv : Int) := by rw [IntKind.wrap_i64]; omega; all_goals omega
          have hgs : wr.grownBy (wr.setCell ⟨g3, 4, none⟩ (.int .i64 (-(cv : Int)))) (some g3) := grown_set (grown_refl _ _) (.inl rfl) _
          have r2' := grown_row hgs HR2.out (by have := HE.out; omega)
          have r3' := pt_setP r3 (o := 4) (by omega) (by omega) (-(cv : Int))
          have h6' := HP.out.off (p := ⟨g3, 4, none⟩) (by have := HE.out; have := HW.out; show B ≤ g3; omega) (.int .i64 (-(cv : Int)))
          have hg' := grown_set HG.out (.inr (by have := HE.out; show w.heap.size ≤ g3; omega)) (p := ⟨g3, 4, none⟩) (.int .i64 (-(cv : Int)))
          obtain ⟨xx, hxx⟩ : ∃ xx, xx = setP ⟨1, 0, 0, 0, cv, 0, 0⟩ 4 (-(cv : Int)) := ⟨_, rfl⟩
          rw [← hxx] at r3'
          have HMK : Hid (xx = mkPart 1 true [cv]) := hxx
          have hJ := HJ.out
          rw [Nat.sub_self, HL2.out] at hJ
          have HJ0 := Lib.hid hJ
          clear hx hxx hJ HP HG HR2 HR3 HJ HGC r3 hgs hcv
          have H6 := Lib.hid h6'
          have HG := Lib.hid hg'
          have HR2' := Lib.hid r2'
          have a0 := r3'.cell (show 0 < 7 by omega)
          have a1 := r3'.cell (show 1 < 7 by omega)
          have a2 := r3'.cell (show 2 < 7 by omega)
          have a3 := r3'.cell (show 3 < 7 by omega)
          have a4 := r3'.cell (show 4 < 7 by omega)
          have a5 := r3'.cell (show 5 < 7 by omega)
          have a6 := r3'.cell (show 6 < 7 by omega)
          have b0 := r2'.cell (show 0 < 7 by omega)
          have b1 := r2'.cell (show 1 < 7 by omega)
          have b2 := r2'.cell (show 2 < 7 by omega)
          have b3 := r2'.cell (show 3 < 7 by omega)
          have b4 := r2'.cell (show 4 < 7 by omega)
          have b5 := r2'.cell (show 5 < 7 by omega)
          have b6 := r2'.cell (show 6 < 7 by omega)
          have z0 := r2'.frozen 0
          have z1 := r2'.frozen 1
          have z2 := r2'.frozen 2
          have z3 := r2'.frozen 3
          have z4 := r2'.frozen 4
          have z5 := r2'.frozen 5
          have z6 := r2'.frozen 6
          dsimp only [ptF] at a0 a1 a2 a3 a4 a5 a6 b0 b1 b2 b3 b4 b5 b6
          clear h6' hg' r3' r2'
          go_wp2_with fail
          (try simp only [Exit.inBlock, Exit.then])
          have hx0 := (grown_set (grown_set (grown_set (grown_set (grown_set (grown_set (grown_set (grown_refl (wr.setCell ⟨g3, 4, none⟩ (.int .i64 (-(cv : Int)))) (some g2)) (.inl rfl) (p := ⟨g2, 0, none⟩) (.int .u8 (xx.k : Nat))) (.inl rfl) (p := ⟨g2, 1, none⟩) (.int .i64 xx.size)) (.inl rfl) (p := ⟨g2, 2, none⟩) (.int .i64 xx.a)) (.inl rfl) (p := ⟨g2, 3, none⟩) (.int .i64 xx.b)) (.inl rfl) (p := ⟨g2, 4, none⟩) (.int .i64 xx.c)) (.inl rfl) (p := ⟨g2, 5, none⟩) (.int .i64 xx.rate)) (.inl rfl) (p := ⟨g2, 6, none⟩) (.int .i64 xx.limit))
          have hx1 := pt_all xx HR2'.out
          have hx2 := H6.out.kept (row := some g2) hx0 (fun k e => by injection e with e; have := HE.out; have := HW.out; omega)
          have hx3 := (grown_set (grown_set (grown_set (grown_set (grown_set (grown_set (grown_set HG.out (.inr (Nat.le_of_eq HE.out.1.symm)) (p := ⟨g2, 0, none⟩) (.int .u8 (xx.k : Nat))) (.inr (Nat.le_of_eq HE.out.1.symm)) (p := ⟨g2, 1, none⟩) (.int .i64 xx.size)) (.inr (Nat.le_of_eq HE.out.1.symm)) (p := ⟨g2, 2, none⟩) (.int .i64 xx.a)) (.inr (Nat.le_of_eq HE.out.1.symm)) (p := ⟨g2, 3, none⟩) (.int .i64 xx.b)) (.inr (Nat.le_of_eq HE.out.1.symm)) (p := ⟨g2, 4, none⟩) (.int .i64 xx.c)) (.inr (Nat.le_of_eq HE.out.1.symm)) (p := ⟨g2, 5, none⟩) (.int .i64 xx.rate)) (.inr (Nat.le_of_eq HE.out.1.symm)) (p := ⟨g2, 6, none⟩) (.int .i64 xx.limit))
          clear hx0
          generalize (World.setCell (World.setCell (World.setCell (World.setCell (World.setCell (World.setCell (World.setCell (wr.setCell ⟨g3, 4, none⟩ (.int .i64 (-(cv : Int)))) ⟨g2, 0, none⟩ (.int .u8 (xx.k : Nat))) ⟨g2, 1, none⟩ (.int .i64 xx.size)) ⟨g2, 2, none⟩ (.int .i64 xx.a)) ⟨g2, 3, none⟩ (.int .i64 xx.b)) ⟨g2, 4, none⟩ (.int .i64 xx.c)) ⟨g2, 5, none⟩ (.int .i64 xx.rate)) ⟨g2, 6, none⟩ (.int .i64 xx.limit)) = W99 at hx1 hx2 hx3 ⊢
          refine bodyPost_ret (pt_results rfl _ _ g2 xx rfl hx1) rfl ?_
          have hrel := part_rel (b' := bi) (x := xx) HLK0.out HMN.out (by rw [HO.out]; rfl) HJ0.out (fun _ => HMK.out)
          first | exact ⟨xx, li, bi, rfl, hx2, hrel, hx3⟩ | exact ⟨xx, rfl, li, bi, hx2, hrel, hx3⟩ | exact ⟨xx, rfl, li, _, hx2, hrel, hx3⟩
  · have hkI : ((k : Int) == 1) = false := by rw [beq_eq_false_iff_ne]; omega
    have hmn' : false = (k == 1 && decide ((hd l.tail).s = [109, 105, 110, 117, 115])) := by
      have : (k == 1) = false := by rw [beq_eq_false_iff_ne]; exact hk1
      rw [this]; rfl
    have h9 : PS B (W6.setCell ⟨g3, 0, none⟩ (.int .u8 (k : Nat))) gp (if false = true then l.tail.tail else l.tail) none many := HPA.out
    have HMN := Lib.hid hmn'
    have HP9 := Lib.hid h9
    have HG9 := HGA
    have HR29 := HR2A
    have HR39 := HR3A
    have HGC9 := HGCA
    clear hk1 hmn' h9 HPA HGA HR2A HR3A HGCA HLTA
    obtain ⟨W8, hW8⟩ : ∃ W8, W8 = W6.setCell ⟨g3, 0, none⟩ (.int .u8 (k : Nat)) := ⟨_, rfl⟩
    rw [← hW8] at HP9 HG9 HR29 HR39 HGC9
    have d9 := d1''
    have HW8 := Lib.hid hW8
    clear hW8
    obtain ⟨l2, hl2⟩ : ∃ l2, l2 = if false = true then l.tail.tail else l.tail := ⟨_, rfl⟩
    rw [← hl2] at HP9
    have HL2 := Lib.hid hl2
    clear hl2
    rw [HW8.out] at HP9 HG9 HR29 HR39 HGC9
    have R0 : PtR (nums os.length l2) os k B gp g2 g3 G many w (W6.setCell ⟨g3, 0, none⟩ (.int .u8 (k : Nat))) (.int .i64 0) := ⟨0, l2, none, [], rfl, Nat.zero_le _, rfl, (fun y hy => by cases hy), HP9.out, HR39.out, HR29.out, HGC9.out, HG9.out, (numsA_nil _ _).symm⟩
    clear HP9 HR39 HR29 HGC9 HG9
    go_wp2_with fail
    clear d9 hkI
    go_loopw [83] (fun v wr => PtR (nums os.length l2) os k B gp g2 g3 G many w wr v) (fun v _ => os.length - (intOf v).toNat)
    case atStart => exact R0
    case round =>
      clear R0
      obtain ⟨i, li, bi, acc, rfl, hi, hacc, h65, hp, hr3, hr2, hgc, hg, hJ⟩ := hrel
      have HP := Lib.hid hp
      have HR3 := Lib.hid hr3
      have HR2 := Lib.hid hr2
      have HGC := Lib.hid hgc
      have HG := Lib.hid hg
      have HJ := Lib.hid hJ
      have HAC := Lib.hid hacc
      have H65 := Lib.hid h65
      clear hp hr3 hr2 hgc hg hJ hacc h65
      by_cases hlt : i < os.length
      · have hltI : (i : Int) < os.length := by omega
        have hi0 : (0 : Int) ≤ i := by omega
        obtain ⟨oo, hoo⟩ : ∃ oo, oo = os[i] := ⟨_, rfl⟩
        have hgi := HGC.out i hlt
        rw [← hoo] at hgi
        have hob := HLEN.out.2 oo (by rw [hoo]; exact List.getElem_mem hlt)
        have HOO := Lib.hid (And.intro hoo hob)
        have HC := Lib.hid (pnum_any HP.out 65535 (by omega))
        have h4 : os.length ≤ 4 := by rw [HO.out]; exact offP_sz k
        have hwi : IntKind.i64.wrap ((i : Int) + 1) = ((i + 1 : Nat) : Int) := by rw [IntKind.wrap_i64]; omega; all_goals omega
        have htn : ((i : Int)).toNat = i := by omega
        clear hoo hob
        go_wp2_with fail
        refine HC.out.mono ?_
        rintro e W9 ⟨n, l', b', hn, rfl, h9, hrn, hgn⟩
        have HRN := Lib.hid hrn
        have HG9 := Lib.hid (nil_grown HG.out hgn)
        have r2 := grown_row hgn HR2.out HN2.out
        have r3 := grown_row hgn HR3.out HN3.out
        have HGC9 : Hid (∀ j (hj : j < os.length), W9.cell? ⟨G, j, none⟩ = some (.pointer (some ⟨g3, os[j], none⟩))) := fun j hj => hgn.cell (HGC.out j hj) (fun e => by injection e with e; have e' : G = gp := e; have h2 : gp < G := HG2'.out; omega)
        have HLT9 : Hid (G < W9.heap.size) := World.block_lt_of_cell? _ _ (HGC9.out i hlt)
        obtain ⟨cv, hcv⟩ := pt_cellP (x := putP { p0 with k := k } (os.take i) acc) HOO.out.2.1 HOO.out.2.2
        have a1 := r3.cell (show oo < 7 by have := HOO.out.2.2; omega)
        rw [hcv] at a1
        have z1 := r3.frozen oo
        have HR3' := Lib.hid r3
        have HR2' := Lib.hid r2
        have H9 := Lib.hid h9
        have HN65 := Lib.hid hn
        clear hrn hgn r2 r3 h9 hcv hn HC HGC
        go_wp2_with fail
        refine ⟨?_, ?_⟩
        · have hgs : W9.grownBy (W9.setCell ⟨g3, oo, none⟩ (.int .i64 (n : Nat))) (some g3) := grown_set (grown_refl _ _) (.inl rfl) _
          have htake : os.take (i + 1) = os.take i ++ [oo] := by rw [HOO.out.1, List.take_succ_eq_append_getElem hlt]
          refine ⟨i + 1, l', b', acc ++ [n], rfl, hlt, by rw [List.length_append, HAC.out]; rfl, ?_, H9.out.off (p := ⟨g3, oo, none⟩) (by have := HE.out; have := HW.out; show B ≤ g3; omega) _, ?_, grown_row hgs HR2'.out (by have := HE.out; omega), ?_, grown_set HG9.out (.inr (by have := HE.out; show w.heap.size ≤ g3; omega)) _, ?_⟩
          · intro y hy
            rcases List.mem_append.1 hy with hy | hy
            · exact H65.out y hy
            · rw [List.mem_singleton.1 hy]; exact HN65.out
          · rw [htake, putP_snoc _ _ _ _ _ (by rw [List.length_take, HAC.out]; omega)]
            exact pt_setP HR3'.out HOO.out.2.1 HOO.out.2.2 _
          · intro j hj
            exact (grown_cell hgs (p := ⟨G, j, none⟩) HLT9.out (fun e => by have e' : G = g3 := e; have h2 : g3 < G := HG3'.out.1; omega)).trans (HGC9.out j hj)
          · have hJ := HJ.out
            rw [show os.length - i = (os.length - (i + 1)) + 1 by omega] at hJ
            exact numJ_go hJ HRN.out
        · show os.length - (i + 1 : Nat) < os.length - i
          omega
      · have hltI : ¬ (i : Int) < os.length := by omega
        have hie : i = os.length := by omega
        subst hie
        have hx : putP { p0 with k := k } (os.take os.length) acc = putP { p0 with k := k } (offP k) acc := by rw [List.take_length, HO.out]
        obtain ⟨xx, hxx⟩ : ∃ xx, xx = putP { p0 with k := k } (os.take os.length) acc := ⟨_, rfl⟩
        have r3 := HR3.out
        rw [← hxx] at r3
        have hmk : xx = mkPart k false acc := by rw [hxx, hx]; exact putP_mk HK.out.2.1 HK.out.2.2 (by rw [HAC.out, HO.out]) false (fun e => by cases e)
        have HMK := Lib.hid hmk
        have hJ := HJ.out
        rw [Nat.sub_self, HL2.out] at hJ
        have HJ0 := Lib.hid hJ
        have h6 := HP.out
        have hg := HG.out
        have r2 := HR2.out
        clear hx hxx hmk hJ HP HG HR2 HR3 HJ HGC
        have H6 := Lib.hid h6
        have HG := Lib.hid hg
        have HR2' := Lib.hid r2
        have a0 := r3.cell (show 0 < 7 by omega)
        have a1 := r3.cell (show 1 < 7 by omega)
        have a2 := r3.cell (show 2 < 7 by omega)
        have a3 := r3.cell (show 3 < 7 by omega)
        have a4 := r3.cell (show 4 < 7 by omega)
        have a5 := r3.cell (show 5 < 7 by omega)
        have a6 := r3.cell (show 6 < 7 by omega)
        have b0 := r2.cell (show 0 < 7 by omega)
        have b1 := r2.cell (show 1 < 7 by omega)
        have b2 := r2.cell (show 2 < 7 by omega)
        have b3 := r2.cell (show 3 < 7 by omega)
        have b4 := r2.cell (show 4 < 7 by omega)
        have b5 := r2.cell (show 5 < 7 by omega)
        have b6 := r2.cell (show 6 < 7 by omega)
        have z0 := r2.frozen 0
        have z1 := r2.frozen 1
        have z2 := r2.frozen 2
        have z3 := r2.frozen 3
        have z4 := r2.frozen 4
        have z5 := r2.frozen 5
        have z6 := r2.frozen 6
        dsimp only [ptF] at a0 a1 a2 a3 a4 a5 a6 b0 b1 b2 b3 b4 b5 b6
        clear h6 hg r3 r2
        go_wp2_with fail
        (try simp only [Exit.inBlock, Exit.then])
        have hx0 := (grown_set (grown_set (grown_set (grown_set (grown_set (grown_set (grown_set (grown_refl wr (some g2)) (.inl rfl) (p := ⟨g2, 0, none⟩) (.int .u8 (xx.k : Nat))) (.inl rfl) (p := ⟨g2, 1, none⟩) (.int .i64 xx.size)) (.inl rfl) (p := ⟨g2, 2, none⟩) (.int .i64 xx.a)) (.inl rfl) (p := ⟨g2, 3, none⟩) (.int .i64 xx.b)) (.inl rfl) (p := ⟨g2, 4, none⟩) (.int .i64 xx.c)) (.inl rfl) (p := ⟨g2, 5, none⟩) (.int .i64 xx.rate)) (.inl rfl) (p := ⟨g2, 6, none⟩) (.int .i64 xx.limit))
        have hx1 := pt_all xx HR2'.out
        have hx2 := H6.out.kept (row := some g2) hx0 (fun k e => by injection e with e; have := HE.out; have := HW.out; omega)
        have hx3 := (grown_set (grown_set (grown_set (grown_set (grown_set (grown_set (grown_set HG.out (.inr (Nat.le_of_eq HE.out.1.symm)) (p := ⟨g2, 0, none⟩) (.int .u8 (xx.k : Nat))) (.inr (Nat.le_of_eq HE.out.1.symm)) (p := ⟨g2, 1, none⟩) (.int .i64 xx.size)) (.inr (Nat.le_of_eq HE.out.1.symm)) (p := ⟨g2, 2, none⟩) (.int .i64 xx.a)) (.inr (Nat.le_of_eq HE.out.1.symm)) (p := ⟨g2, 3, none⟩) (.int .i64 xx.b)) (.inr (Nat.le_of_eq HE.out.1.symm)) (p := ⟨g2, 4, none⟩) (.int .i64 xx.c)) (.inr (Nat.le_of_eq HE.out.1.symm)) (p := ⟨g2, 5, none⟩) (.int .i64 xx.rate)) (.inr (Nat.le_of_eq HE.out.1.symm)) (p := ⟨g2, 6, none⟩) (.int .i64 xx.limit))
        clear hx0
        generalize (World.setCell (World.setCell (World.setCell (World.setCell (World.setCell (World.setCell (World.setCell wr ⟨g2, 0, none⟩ (.int .u8 (xx.k : Nat))) ⟨g2, 1, none⟩ (.int .i64 xx.size)) ⟨g2, 2, none⟩ (.int .i64 xx.a)) ⟨g2, 3, none⟩ (.int .i64 xx.b)) ⟨g2, 4, none⟩ (.int .i64 xx.c)) ⟨g2, 5, none⟩ (.int .i64 xx.rate)) ⟨g2, 6, none⟩ (.int .i64 xx.limit)) = W99 at hx1 hx2 hx3 ⊢
        refine bodyPost_ret (pt_results rfl _ _ g2 xx rfl hx1) rfl ?_
        have hrel := part_rel (b' := bi) (x := xx) HLK0.out HMN.out (by rw [HO.out]; exact (offP_len HK.out.2.1 HK.out.2.2).1) HJ0.out (fun _ => HMK.out)
        first | exact ⟨xx, li, bi, rfl, hx2, hrel, hx3⟩ | exact ⟨xx, rfl, li, bi, hx2, hrel, hx3⟩ | exact ⟨xx, rfl, li, _, hx2, hrel, hx3⟩
end
end Go.Proofs.Ythmpagehmfillaa
