/-
  THE WALK OF quillpressref07's Crash. Conditions: the document's disk is a value whose lists read; the junk reads.
-/
import Derived.Test.YtkmjbfednmidbaaDiskP5
import Derived.Test.YtkmjbfednmidbaaOwSet
namespace Go.Proofs.Ytkmjbfednmidbaa
open Go.RowKit
set_option linter.unusedSimpArgs false
set_option linter.unusedVariables false

def RfS.crash (r : RfS) (left : List Nat) : RfS := ⟨r.most, left, left, left.length, false, 0, 0, 0⟩
def rcBase (r : RfS) (keep : Int) : List Nat := r.now.take (r.floor + (min keep (r.now.length - r.floor : Nat)).toNat)
def rcLeft (r : RfS) (keep : Int) (junk : List Nat) : List Nat :=
  if keep < 0 then r.old else (if junk = [] then rcBase r keep else jk (crFrom r.floor (rcBase r keep).length) junk (rcBase r keep) (rcBase r keep).length)
/-- What the walk has in memory: the disk's box, the crash's, the result's block. -/
structure Cx (w X : World) (r : RfS) (A B : Option Addr) (c e : Nat) (keep : Int) (J : Option Addr) (jn jc : Nat) : Prop where
  c0 : X.cell? ⟨w.heap.size, 0, none⟩ = some (.int .i64 r.most)
  c1 : X.cell? ⟨w.heap.size, 1, none⟩ = some (.slice A r.now.length c)
  c2 : X.cell? ⟨w.heap.size, 2, none⟩ = some (.slice B r.old.length e)
  c3 : X.cell? ⟨w.heap.size, 3, none⟩ = some (.int .i64 r.floor)
  k0 : X.cell? ⟨w.heap.size + 1, 0, none⟩ = some (.int .i64 keep)
  k1 : X.cell? ⟨w.heap.size + 1, 1, none⟩ = some (.slice J jn jc)
  res : X.heap[w.heap.size + 1 + 1]? = some (.cells #[.int .i64 0, .slice none 0 0, .slice none 0 0, .int .i64 0, .bool false, .int .i64 0, .int .i64 0, .int .i64 0] 63 (0, 0))
  below : Below w.heap.size w X
section
variable {w X Y : World} {r : RfS} {A B J : Option Addr} {c e jn jc : Nat} {keep : Int}
theorem Cx.bel (h : Cx w X r A B c e keep J jn jc) {b : Nat} (hb : Below b X Y) (hs : w.heap.size + 3 ≤ b) : Cx w Y r A B c e keep J jn jc := by
  refine ⟨?_, ?_, ?_, ?_, ?_, ?_, (hb.block _ (by omega)).trans h.res, h.below.trans (hb.mono (by omega))⟩
  · exact (hb.cell (p := ⟨w.heap.size, 0, none⟩) (by show w.heap.size < b; omega)).trans h.c0
  · exact (hb.cell (p := ⟨w.heap.size, 1, none⟩) (by show w.heap.size < b; omega)).trans h.c1
  · exact (hb.cell (p := ⟨w.heap.size, 2, none⟩) (by show w.heap.size < b; omega)).trans h.c2
  · exact (hb.cell (p := ⟨w.heap.size, 3, none⟩) (by show w.heap.size < b; omega)).trans h.c3
  · exact (hb.cell (p := ⟨w.heap.size + 1, 0, none⟩) (by show w.heap.size + 1 < b; omega)).trans h.k0
  · exact (hb.cell (p := ⟨w.heap.size + 1, 1, none⟩) (by show w.heap.size + 1 < b; omega)).trans h.k1
theorem Cx.at (h : Cx w X r A B c e keep J jn jc) : w.heap.size + 3 ≤ X.heap.size := by have := lt_of_block h.res; omega
end
theorem cx_new (w : World) (r : RfS) (A B : Option Addr) (c e : Nat) (keep : Int) (J : Option Addr) (jn jc : Nat) :
    Cx w (((w.alloc (.cells (rfC r A B c e) 63)).alloc (.cells #[.int .i64 keep, .slice J jn jc] 34)).alloc (.cells #[.int .i64 0, .slice none 0 0, .slice none 0 0, .int .i64 0, .bool false, .int .i64 0, .int .i64 0, .int .i64 0] 63)) r A B c e keep J jn jc := by
  have h1 : ((w.alloc (.cells (rfC r A B c e) 63)).alloc (.cells #[.int .i64 keep, .slice J jn jc] 34)).heap.size = w.heap.size + 1 + 1 := by simp
  have b2 := (Below.refl ((w.alloc (.cells (rfC r A B c e) 63)).alloc (.cells #[.int .i64 keep, .slice J jn jc] 34)).heap.size _).alloc (Nat.le_refl _) (.cells #[.int .i64 0, .slice none 0 0, .slice none 0 0, .int .i64 0, .bool false, .int .i64 0, .int .i64 0, .int .i64 0] 63)
  obtain ⟨r1, r2⟩ := two_rows w (rfC r A B c e) #[.int .i64 keep, .slice J jn jc] 63 34
  have s1 := (b2.block w.heap.size (by omega)).trans r1
  have s2 := (b2.block (w.heap.size + 1) (by omega)).trans r2
  refine ⟨?_, ?_, ?_, ?_, ?_, ?_, ?_, (two_below w _ _ _ _).trans (b2.mono (by omega))⟩
  · rw [cell_of_row _ _ _ _ _ _ s1]; rfl
  · rw [cell_of_row _ _ _ _ _ _ s1]; rfl
  · rw [cell_of_row _ _ _ _ _ _ s1]; rfl
  · rw [cell_of_row _ _ _ _ _ _ s1]; rfl
  · rw [cell_of_row _ _ _ _ _ _ s2]; rfl
  · rw [cell_of_row _ _ _ _ _ _ s2]; rfl
  · have := heap_alloc_new ((w.alloc (.cells (rfC r A B c e) 63)).alloc (.cells #[.int .i64 keep, .slice J jn jc] 34)) (.cells #[.int .i64 0, .slice none 0 0, .slice none 0 0, .int .i64 0, .bool false, .int .i64 0, .int .i64 0, .int .i64 0] 63)
    rw [h1] at this
    exact this
theorem keep8 {w : World} {p : Addr} {v : Value} (h : w.cell? p = some v) {g : Nat} (hne : p.block ≠ g) (a0 a1 a2 a3 a4 a5 a6 a7 : Value) :
    (((((((((w.setCell ⟨g, 0, none⟩ a0).setCell ⟨g, 1, none⟩ a1).setCell ⟨g, 2, none⟩ a2).setCell ⟨g, 3, none⟩ a3).setCell ⟨g, 4, none⟩ a4).setCell ⟨g, 5, none⟩ a5).setCell ⟨g, 6, none⟩ a6).setCell ⟨g, 7, none⟩ a7)).cell? p = some v :=
  cell_ne_set (cell_ne_set (cell_ne_set (cell_ne_set (cell_ne_set (cell_ne_set (cell_ne_set (cell_ne_set h hne) hne) hne) hne) hne) hne) hne) hne
theorem Ow.rdN {w : World} {base n c : Nat} {A : Option Addr} {l : List Nat} (h : Ow w base (.slice A n c) l) : Rd w A l := by
  obtain ⟨A', c', e, -, -, hr⟩ := h.form
  injection e with e1 e2 e3
  subst e1
  exact hr
set_option maxRecDepth 100000 in
set_option maxHeartbeats 8000000 in
theorem rcrash_any (v : Value) (r : RfS) (keep : Int) (J : Option Addr) (jn jc : Nat) (junk : List Nat) (w : World) (h : RfV w v r) (hfl : r.floor ≤ r.now.length) (hjn : jn = junk.length) (hJ : Rd w J junk) (hjl : junk.length ≤ 9223372036854775807) (hk1 : -9223372036854775808 ≤ keep) (hk2 : keep ≤ 9223372036854775807) :
    Calls Try.prog 42 #[v, .agg #[.int .i64 keep, .slice J jn jc]] w fun e w' => ∃ v', e = .returned v' ∧ RfV w' v' (r.crash (rcLeft r keep junk)) ∧ Below w.heap.size w w' := by
  subst hjn
  obtain ⟨A, c, B, e, rfl, h2, h3, h4, h5, h6, h7, h8, h9, h10, h11⟩ := h
  have R1 := Lib.hid h4
  have R2 := Lib.hid h5
  have RJ := Lib.hid hJ
  have hcx := cx_new w r A B c e keep J junk.length jc
  clear h4 h5 hJ h10 h11
  go_enter Try.func42, Try.ntmps42
  go_wp2_with fail
  change Cx w (((w.alloc (.cells #[.int .i64 r.most, .slice A r.now.length c, .slice B r.old.length e, .int .i64 r.floor, .bool r.down, .int .i64 r.armed, .int .i64 r.fails, .int .i64 r.err] 63)).alloc (.cells #[.int .i64 keep, .slice J junk.length jc] 34)).alloc (.cells #[.int .i64 0, .slice none 0 0, .slice none 0 0, .int .i64 0, .bool false, .int .i64 0, .int .i64 0, .int .i64 0] 63)) r A B c e keep J junk.length jc at hcx
  generalize (((w.alloc (.cells #[.int .i64 r.most, .slice A r.now.length c, .slice B r.old.length e, .int .i64 r.floor, .bool r.down, .int .i64 r.armed, .int .i64 r.fails, .int .i64 r.err] 63)).alloc (.cells #[.int .i64 keep, .slice J junk.length jc] 34)).alloc (.cells #[.int .i64 0, .slice none 0 0, .slice none 0 0, .int .i64 0, .bool false, .int .i64 0, .int .i64 0, .int .i64 0] 63)) = X at *
  have HX := Lib.hid hcx
  clear hcx
  obtain ⟨g2, hg2⟩ : ∃ g2, g2 = w.heap.size + 1 + 1 := ⟨_, rfl⟩
  rw [← hg2]
  have HG2 := Lib.hid hg2
  clear hg2
  refine (copied_any B r.old.length e r.old X rfl (R2.out.below HX.out.below) (by omega)).mono ?_
  rintro e w1 ⟨B1, e1, rfl, ho1, hb1⟩
  have HX1 := Lib.hid (HX.out.bel hb1 HX.out.at)
  have O1 := Lib.hid ho1
  have z0 := HX1.out.k0
  clear ho1 hb1
  by_cases hk : keep < 0
  · have k0 : ¬ (0 : Int) ≤ keep := by omega
    have HLE := Lib.hid (show rcLeft r keep junk = r.old from if_pos hk)
    go_wp2_with fail
    have y0 := HX1.out.c0
    have hgn1 : ¬ (g2 = w.heap.size) := by have := HG2.out; omega
    have hgn2 : ¬ (w.heap.size = g2) := by omega
    obtain ⟨b5, ⟨A5, c5, e5, q5, q5', hr5, -⟩, -⟩ := O1.out.sl
    injection e5 with e5a e5b e5c
    subst e5a; subst e5c
    have Q5 := Lib.hid (show r.old.length ≤ e1 ∧ e1 ≤ 9223372036854775807 from ⟨q5, q5'⟩)
    have HR5 := Lib.hid hr5
    clear hr5 e5b q5 q5'
    go_region_held3 (fun V => V.cell? ⟨w.heap.size, 0, none⟩ = some (.int .i64 r.most))
      (first
        | with_reducible exact y0
        | with_reducible exact HX6.out.c0
        | go_keep)
      (first
        | (go_at_call 65; (refine (copied_any B1 _ e1 r.old _ ((rfl : r.old.length = r.old.length)) (by exact HR5.out) (by have := ((rfl : r.old.length = r.old.length)); omega)).mono ?_); rintro e w6 ⟨A6, c6, rfl, ho6, hb6⟩
           rw [← show r.old.length = r.old.length from (rfl : r.old.length = r.old.length)] at ho6 ⊢
           have hb6' : Below w1.heap.size w1 w6 := (below_drewN' (Below.refl _ _) 1).trans hb6
           have HX6 := Lib.hid (HX1.out.bel hb6' HX1.out.at)
           have HB6 := Lib.hid hb6'
           have HO6 := Lib.hid ho6
           obtain ⟨v0, v1, v2, v3, v4, v5, v6, v7, z0, z1, z2, z3', z4, z5, z6, z7, zf⟩ := row8 ((HG2.out ▸ HX6.out.res)) rfl
           have zf0 := zf 0
           have zf1 := zf 1
           have zf2 := zf 2
           have zf3 := zf 3
           have zf4 := zf 4
           have zf5 := zf 5
           have zf6 := zf 6
           have zf7 := zf 7
           clear ho6 hb6 hb6' zf))
    all_goals
      obtain ⟨h8, hg8⟩ := set8 (HG2.out ▸ HX6.out.res) rfl (.int .i64 r.most) (.slice B1 r.old.length e1) (.slice A6 r.old.length c6) (.int .i64 (r.old.length : Nat)) (.bool false) (.int .i64 0) (.int .i64 0) (.int .i64 0)
      have hr6 := Ow.rdN HO6.out
      have hrA := (HR5.out.below HB6.out).grownRow (HG2.out ▸ HX6.out.res) zero_no hg8
      have hrB := hr6.grownRow (HG2.out ▸ HX6.out.res) zero_no hg8
      have hbz := below_of_grown HX6.out.below hg8 HX6.out.below.size (show w.heap.size ≤ g2 by have := HG2.out; omega)
      generalize ((((((((w6.setCell ⟨g2, 0, none⟩ (.int .i64 r.most)).setCell ⟨g2, 1, none⟩ (.slice B1 r.old.length e1)).setCell ⟨g2, 2, none⟩ (.slice A6 r.old.length c6)).setCell ⟨g2, 3, none⟩ (.int .i64 (r.old.length : Nat))).setCell ⟨g2, 4, none⟩ (.bool false)).setCell ⟨g2, 5, none⟩ (.int .i64 0)).setCell ⟨g2, 6, none⟩ (.int .i64 0)).setCell ⟨g2, 7, none⟩ (.int .i64 0)) = Z8 at *
      have H8 : Hid (Z8.heap[g2]? = some (.cells (rfC (r.crash r.old) B1 A6 e1 c6) 63 (0, 0))) := by
        have hN : r.old.length = r.old.length := (rfl : r.old.length = r.old.length)
        show Z8.heap[g2]? = _
        simp only [rfC, RfS.crash]
        rw [← hN]
        exact h8
      have HRA := Lib.hid hrA
      have HRB := Lib.hid hrB
      have HBZ := Lib.hid hbz
      clear h8 hrA hrB hbz hg8 hr6 y0 z0 z1 z2 z3' z4 z5 z6 z7 zf0 zf1 zf2 zf3 zf4 zf5 zf6 zf7
      go_wp2_with fail
      refine bodyPost_ret (results_cell_row rfl _ _ (g2) 63 (rfC (r.crash r.old) B1 A6 e1 c6) (0, 0) _ rfl H8.out Try.underlying63 rfl rf_size) rfl ?_
      refine ⟨_, rfl, ?_, HBZ.out⟩
      rw [HLE.out]
      exact ⟨B1, e1, A6, c6, rfl, Q5.out.1, Q5.out.2, HRA.out, HRB.out, h6, h8, h8, h8, (by show 0 ≤ 2305843009213693952; decide), (by show 0 ≤ 2305843009213693952; decide)⟩
  · have k0 : (0 : Int) ≤ keep := by omega
    obtain ⟨K, hK⟩ : ∃ K : Nat, K = r.floor + (min keep (r.now.length - r.floor : Nat)).toNat := ⟨_, rfl⟩
    have hKn : K ≤ r.now.length := by omega
    have hKf : r.floor ≤ K := by omega
    have hKk : ∀ q : Nat, r.floor ≤ q → q < r.now.length → ((q : Int) - r.floor < keep ↔ q < K) := by intro q h1 h2; omega
    have hbase : rcBase r keep = r.now.take K := by rw [hK]; rfl
    have HL1 := Lib.hid (show (junk = [] → rcLeft r keep junk = rcBase r keep) ∧ (junk ≠ [] → rcLeft r keep junk = jk (crFrom r.floor (rcBase r keep).length) junk (rcBase r keep) (rcBase r keep).length) from ⟨fun h => by unfold rcLeft; rw [if_neg hk, if_pos h], fun h => by unfold rcLeft; rw [if_neg hk, if_neg h]⟩)
    have HKK := Lib.hid hKk
    have z1 := HX1.out.c1
    have z3 := HX1.out.c3
    have hcf : (r.floor : Int) ≤ c := by omega
    have hcf2 : r.floor ≤ c := by omega
    have HBS := Lib.hid hbase
    have hlf : (r.now.take r.floor).length = r.floor := by rw [List.length_take]; omega
    have HLF := Lib.hid hlf
    clear hKk hbase hlf hK
    go_wp2_with fail
    refine (copied_any A r.floor c (r.now.take r.floor) w1 HLF.out.symm (rd_takeL (R1.out.below HX1.out.below) _) (by rw [HLF.out]; omega)).mono ?_
    rintro e w2 ⟨A2, c2, rfl, ho2, hb2⟩
    have HX2 := Lib.hid (HX1.out.bel hb2 HX1.out.at)
    have O2 := Lib.hid ho2
    have HW12 := Lib.hid hb2.size
    clear ho2 hb2 z0 z1 z3
    have z0 := HX2.out.k0
    have z3 := HX2.out.c3
    go_wp2_with fail
    go_loopw [5, 6] (fun v i wr => ∃ q : Nat, i = .int .i64 q ∧ r.floor ≤ q ∧ q ≤ K ∧ Ow wr w1.heap.size v (r.now.take q) ∧ Below w1.heap.size w2 wr) (fun _ i _ => K - (intOf i).toNat)
    case atStart => exact ⟨r.floor, rfl, Nat.le_refl _, hKf, by have := O2.out; rw [HLF.out] at this; exact this, (Below.refl _ _)⟩
    case round =>
      obtain ⟨q, rfl, hq1, hq2, ho, hb⟩ := hrel
      obtain ⟨Y, rfl⟩ : ∃ Y, Y = wr := ⟨wr, rfl⟩
      have HXr := Lib.hid (HX2.out.bel hb HX1.out.at)
      obtain ⟨A5, c5, rfl, h5c, h5b, h5r⟩ := ho.form
      have htq : (r.now.take q).length = q := by rw [List.length_take]; omega
      have HTQ := Lib.hid htq
      have HOY := Lib.hid ho
      have HBY := Lib.hid hb
      have hsz := HX1.out.at
      have hbs : w1.heap.size ≤ Y.heap.size := Nat.le_trans HW12.out hb.size
      have u1 : IntKind.i64.wrap ((q : Int) - r.floor) = (q : Int) - r.floor := by simp [IntKind.wrap, IntKind.signed, IntKind.bits]; omega
      have z1 := HXr.out.c1
      have z3 := HXr.out.c3
      have z0 := HXr.out.k0
      clear h5c h5b h5r ho hb
      by_cases eK : q < K
      · have v1 : (q : Int) < r.now.length := by omega
        have v2 : (q : Int) - r.floor < keep := (HKK.out q hq1 (by omega)).2 eK
        obtain ⟨gA, oA, rfl, hgA, hcA⟩ := R1.out.2 (by intro e; rw [e] at hKn; simp at hKn; omega)
        have hca : Y.cell? ⟨gA, oA + q, none⟩ = some (.int .u8 (nth r.now q : Nat)) := (HXr.out.below.cell (p := ⟨gA, oA + q, none⟩) hgA).trans (hcA q (by omega))
        have hx := nth_lt R1.out.1 q
        obtain ⟨x, hxe⟩ : ∃ x, x = nth r.now q := ⟨_, rfl⟩
        have hnx : r.now.take (q + 1) = r.now.take q ++ [x] := by rw [hxe, nth_get (by omega), List.take_add_one, List.getElem?_eq_getElem (by omega)]; rfl
        rw [← hxe] at hca hx
        have HNX := Lib.hid hnx
        clear hcA hxe hnx
        rw [HTQ.out] at HOY ⊢
        go_wp2_with (at_builtin; refine append_new (.tmp 39) (.tmp 45) rfl rfl _ _ _ x rfl rfl HOY.out rfl hx (by rw [HTQ.out]; omega) (by omega) ?_; intro v5 w5 ho5 hg5 ha5
                     have HO5 := Lib.hid ho5
                     have HB5 := Lib.hid (below_of_append HBY.out HOY.out hg5 hbs (Nat.le_refl _))
                     clear ho5 hg5 ha5)
        go_roundw
        case rel => exact ⟨q + 1, by go_num, by omega, by omega, by rw [HNX.out]; exact HO5.out, HB5.out⟩
        case measure => simp [intOf]; omega
      · obtain rfl : q = K := by omega
        rw [HTQ.out] at HOY ⊢
        have hm4 : q ≤ 4194304 := by omega
        have u2 : IntKind.i64.wrap ((q : Int) - 1) = (q : Int) - 1 := by simp [IntKind.wrap, IntKind.signed, IntKind.bits]; omega
        have hbl : ∀ x ∈ r.now.take q, x < 256 := HOY.out.1
        obtain ⟨base, hbe⟩ : ∃ base, base = r.now.take q := ⟨_, rfl⟩
        rw [← hbe] at HOY HTQ HBS hbl
        have HBL := Lib.hid hbl
        clear hbe hbl O2
        have hcase : ((q : Int) < r.now.length ∧ ¬ (q : Int) - r.floor < keep) ∨ ¬ (q : Int) < r.now.length := by
          by_cases e : q < r.now.length
          · left
            refine ⟨by omega, fun h => ?_⟩
            have := (HKK.out q hq1 e).1 h
            omega
          · right; omega
        rcases hcase with ⟨v1, v2⟩ | v1
        all_goals
          skip
          go_wp2_with fail
          by_cases hj : junk = []
          · have HLE := Lib.hid ((HL1.out.1 hj).trans HBS.out)
            have HBq : Hid (q = base.length) := HTQ.out.symm
            subst hj
            have x3 := HXr.out.k1
            go_loopw [8] (fun v wr => v = .int .i64 r.floor ∧ wr = Y) (fun _ _ => 0)
            case atStart => exact ⟨rfl, rfl⟩
            case round =>
              obtain ⟨rfl, rfl⟩ := hrel
              have hdec : (r.floor : Int) < q ∨ ¬ (r.floor : Int) < q := by omega
              rcases hdec with hdec | hdec
              all_goals
                go_wp2_with fail
                have y0 := HXr.out.c0
                have hgn1 : ¬ (g2 = w.heap.size) := by have := HG2.out; omega
                have hgn2 : ¬ (w.heap.size = g2) := by omega
                obtain ⟨b5, ⟨A5, c5, e5, q5, q5', hr5, -⟩, -⟩ := HOY.out.sl
                injection e5 with e5a e5b e5c
                subst e5a; subst e5c
                have Q5 := Lib.hid (show base.length ≤ c5 ∧ c5 ≤ 9223372036854775807 from ⟨q5, q5'⟩)
                have HR5 := Lib.hid hr5
                clear hr5 e5b q5 q5'
                go_region_held3 (fun V => V.cell? ⟨w.heap.size, 0, none⟩ = some (.int .i64 r.most))
                  (first
                    | with_reducible exact y0
                    | with_reducible exact HX6.out.c0
                    | go_keep)
                  (first
                    | (go_at_call 65; (refine (copied_any A5 _ c5 base _ (HBq.out) (by exact HR5.out) (by have := (HBq.out); omega)).mono ?_); rintro e w6 ⟨A6, c6, rfl, ho6, hb6⟩
                       rw [← show q = base.length from HBq.out] at ho6 ⊢
                       have hb6' : Below wr.heap.size wr w6 := (below_drewN' (Below.refl _ _) 1).trans hb6
                       have HX6 := Lib.hid (HXr.out.bel hb6' HXr.out.at)
                       have HB6 := Lib.hid hb6'
                       have HO6 := Lib.hid ho6
                       obtain ⟨v0, v1, v2, v3, v4, v5, v6, v7, z0, z1, z2, z3', z4, z5, z6, z7, zf⟩ := row8 ((HG2.out ▸ HX6.out.res)) rfl
                       have zf0 := zf 0
                       have zf1 := zf 1
                       have zf2 := zf 2
                       have zf3 := zf 3
                       have zf4 := zf 4
                       have zf5 := zf 5
                       have zf6 := zf 6
                       have zf7 := zf 7
                       clear ho6 hb6 hb6' zf))
                all_goals
                  obtain ⟨h8, hg8⟩ := set8 (HG2.out ▸ HX6.out.res) rfl (.int .i64 r.most) (.slice A5 q c5) (.slice A6 q c6) (.int .i64 (q : Nat)) (.bool false) (.int .i64 0) (.int .i64 0) (.int .i64 0)
                  have hr6 := Ow.rdN HO6.out
                  have hrA := (HR5.out.below HB6.out).grownRow (HG2.out ▸ HX6.out.res) zero_no hg8
                  have hrB := hr6.grownRow (HG2.out ▸ HX6.out.res) zero_no hg8
                  have hbz := below_of_grown HX6.out.below hg8 HX6.out.below.size (show w.heap.size ≤ g2 by have := HG2.out; omega)
                  generalize ((((((((w6.setCell ⟨g2, 0, none⟩ (.int .i64 r.most)).setCell ⟨g2, 1, none⟩ (.slice A5 q c5)).setCell ⟨g2, 2, none⟩ (.slice A6 q c6)).setCell ⟨g2, 3, none⟩ (.int .i64 (q : Nat))).setCell ⟨g2, 4, none⟩ (.bool false)).setCell ⟨g2, 5, none⟩ (.int .i64 0)).setCell ⟨g2, 6, none⟩ (.int .i64 0)).setCell ⟨g2, 7, none⟩ (.int .i64 0)) = Z8 at *
                  have H8 : Hid (Z8.heap[g2]? = some (.cells (rfC (r.crash base) A5 A6 c5 c6) 63 (0, 0))) := by
                    have hN : q = base.length := HBq.out
                    show Z8.heap[g2]? = _
                    simp only [rfC, RfS.crash]
                    rw [← hN]
                    exact h8
                  have HRA := Lib.hid hrA
                  have HRB := Lib.hid hrB
                  have HBZ := Lib.hid hbz
                  clear h8 hrA hrB hbz hg8 hr6 y0 z0 z1 z2 z3' z4 z5 z6 z7 zf0 zf1 zf2 zf3 zf4 zf5 zf6 zf7
                  go_wp2_with fail
                  refine bodyPost_ret (results_cell_row rfl _ _ (g2) 63 (rfC (r.crash base) A5 A6 c5 c6) (0, 0) _ rfl H8.out Try.underlying63 rfl rf_size) rfl ?_
                  refine ⟨_, rfl, ?_, HBZ.out⟩
                  rw [HLE.out]
                  exact ⟨A5, c5, A6, c6, rfl, Q5.out.1, Q5.out.2, HRA.out, HRB.out, h6, (show base.length ≤ r.most by rw [← HBq.out]; omega), (show base.length ≤ r.most by rw [← HBq.out]; omega), (show base.length ≤ r.most by rw [← HBq.out]; omega), (by show 0 ≤ 2305843009213693952; decide), (by show 0 ≤ 2305843009213693952; decide)⟩
          · have hj0 : (0 : Int) < junk.length := by have := List.length_pos_iff.2 hj; omega
            have hj1 : 0 < junk.length := List.length_pos_iff.2 hj
            obtain ⟨gj, oj, rfl, hgj, hcj⟩ := RJ.out.2 hj
            have HCJ := Lib.hid hcj
            have HJL := Lib.hid RJ.out.1
            have HLE0 := Lib.hid (HL1.out.2 hj)
            have hjz2 : ((junk.length : Int) == 0) = false := by rw [beq_eq_false_iff_ne]; omega
            clear hcj
            obtain ⟨F, hF⟩ : ∃ F, F = crFrom r.floor q := ⟨_, rfl⟩
            have hF1 : r.floor ≤ F := by rw [hF]; exact Nat.le_max_left _ _
            have hF2 : F ≤ q := by rw [hF]; unfold crFrom; omega
            have hF3 : ∀ i, r.floor ≤ i → i < q → (F ≤ i ↔ (i : Int) / 512 = ((q : Int) - 1) / 512) := by
              intro i h1 h2
              rw [hF]
              unfold crFrom
              omega
            have HLE1 : Hid (rcLeft r keep junk = jk F junk base q) := by
              have h := HLE0.out
              rw [HBS.out, HTQ.out, ← hF] at h
              exact h
            have HF3 := Lib.hid hF3
            clear hF hF3 HLE0
            go_loopw [7, 8] (fun n v wr => ∃ i : Nat, v = .int .i64 i ∧ n = .int .i64 (i - F : Nat) ∧ r.floor ≤ i ∧ i ≤ q ∧ Ow wr w1.heap.size (.slice A5 q c5) (jk F junk base i) ∧ Below w1.heap.size Y wr) (fun _ v _ => q - (intOf v).toNat)
            case atStart => exact ⟨r.floor, rfl, by rw [Nat.sub_eq_zero_of_le hF1] <;> rfl, Nat.le_refl _, hq1, by rw [jk_zero _ _ _ hF1]; exact HOY.out, Below.refl _ _⟩
            case round =>
              obtain ⟨i, rfl, rfl, hi1, hi2, ho, hb⟩ := hrel
              obtain ⟨Z, rfl⟩ : ∃ Z, Z = wr := ⟨wr, rfl⟩
              have HXz := Lib.hid (HXr.out.bel hb HX1.out.at)
              have x3 := HXz.out.k1
              by_cases hiq : i < q
              · have k5 : (i : Int) < q := by omega
                have hlen : (jk F junk base i).length = q := by rw [jk_length, HTQ.out]
                obtain ⟨g5, c5', e5, -, hg5, hg5l, hcell, hfr⟩ := ho.form0 (by intro e; rw [e] at hlen; simp at hlen; omega)
                injection e5 with e5 e6 e7
                subst e5
                clear e6 e7
                have HO1 := Lib.hid ho
                have HB1 := Lib.hid hb
                have HLN := Lib.hid hlen
                by_cases hFi : F ≤ i
                · have t1 : ((i : Int) / 512 == ((q : Int) - 1) / 512) = true := by rw [beq_iff_eq]; exact (HF3.out i hi1 hiq).1 hFi
                  have x1 : Z.cell? ⟨g5, i, none⟩ = some (.int .u8 (nth (jk F junk base i) i : Nat)) := hcell i (by rw [hlen]; exact hiq)
                  have x2 := hfr i
                  obtain ⟨nn, hnn⟩ : ∃ nn, nn = i - F := ⟨_, rfl⟩
                  have hnn2 : i + 1 - F = nn + 1 := by omega
                  have hnn3 : nn ≤ 4194304 := by omega
                  have HNN := Lib.hid hnn
                  have HNN2 := Lib.hid hnn2
                  rw [← hnn]
                  clear hnn hnn2
                  have hrm : (nn) % junk.length < junk.length := Nat.mod_lt _ hj1
                  have x4 : Z.cell? ⟨gj, oj + (nn) % junk.length, none⟩ = some (.int .u8 (nth junk ((nn) % junk.length) : Nat)) := (HXz.out.below.cell (p := ⟨gj, _, none⟩) hgj).trans (HCJ.out _ hrm)
                  have y2 : ((nn : Nat) : Int).tmod (junk.length : Int) = (((nn) % junk.length : Nat) : Int) := by
                    rw [Int.tmod_eq_emod_of_nonneg (by omega), ← Int.natCast_emod]
                  have y3 : ((((nn) % junk.length : Nat) : Int)) < junk.length := Int.ofNat_lt.2 hrm
                  have hx256 := nth_lt HJL.out ((nn) % junk.length)
                  generalize hxx : nth junk ((nn) % junk.length) = x at *
                  have HXX := Lib.hid hxx
                  generalize hrr : (nn) % junk.length = rr at *
                  have HRR := Lib.hid hrr
                  clear hrr ho hb hcell hfr hlen hxx
                  go_wp2_with fail
                  refine wp_region_still_tail 12 (by kernel_rfl) (by kernel_rfl) ?_
                  simp only [List.take_succ_cons, List.take_zero, List.drop_succ_cons, List.drop_zero]
                  repeat still_step
                  try refine wpStill_nil ?_
                  change wpList _ _ _ _ _ Z.drew
                  go_wp2_with fail
                  have HOx := Lib.hid (HO1.out.drew.set (i := i) (by rw [HLN.out]; exact hiq) hx256)
                  have HBx := Lib.hid (HB1.out.drew.setCell (p := ⟨g5, i, none⟩) (by show w1.heap.size ≤ g5; exact hg5) (.int .u8 (x : Nat)))
                  go_roundw
                  case rel =>
                    have hjk : Ow (Z.drew.setCell ⟨g5, i, none⟩ (.int .u8 (x : Nat))) w1.heap.size (.slice (some ⟨g5, 0, none⟩) q c5) (jk F junk base (i + 1)) := by
                      rw [jk_step _ _ _ hFi (by rw [HTQ.out]; exact hiq), ← HNN.out, HRR.out, HXX.out]
                      exact HOx.out
                    exact ⟨i + 1, by go_num, by rw [HNN2.out]; go_num, by omega, by omega, hjk, HBx.out⟩
                  case measure => simp [intOf]; omega
                · have t1 : ((i : Int) / 512 == ((q : Int) - 1) / 512) = false := by rw [beq_eq_false_iff_ne]; exact fun e => hFi ((HF3.out i hi1 hiq).2 e)
                  have e0 : i - F = 0 := by omega
                  have e0' : i + 1 - F = 0 := by omega
                  have hjs : jk F junk base (i + 1) = jk F junk base i := by rw [jk_zero _ _ _ (by omega), jk_zero _ _ _ (by omega)]
                  have HJS := Lib.hid hjs
                  have E0 := Lib.hid e0'
                  rw [e0]
                  clear ho hb hcell hfr hlen hjs e0 e0'
                  go_wp2_with fail
                  go_roundw
                  case rel => exact ⟨i + 1, by go_num, by rw [E0.out] <;> rfl, by omega, by omega, by rw [HJS.out]; exact HO1.out, HB1.out⟩
                  case measure => simp [intOf]; omega
              · obtain rfl : i = q := by omega
                obtain ⟨lft, hlft⟩ : ∃ l, l = jk F junk base i := ⟨_, rfl⟩
                have hll : i = lft.length := by rw [hlft, jk_length, HTQ.out]
                rw [← hlft] at ho HLE1
                have HLE : Hid (rcLeft r keep junk = lft) := HLE1.out
                have HOZ := Lib.hid ho
                have HBq := Lib.hid hll
                clear ho hb hlft hll
                go_wp2_with fail
                have y0 := HXz.out.c0
                have hgn1 : ¬ (g2 = w.heap.size) := by have := HG2.out; omega
                have hgn2 : ¬ (w.heap.size = g2) := by omega
                obtain ⟨b5, ⟨A5, c5, e5, q5, q5', hr5, -⟩, -⟩ := HOZ.out.sl
                injection e5 with e5a e5b e5c
                subst e5a; subst e5c
                have Q5 := Lib.hid (show lft.length ≤ c5 ∧ c5 ≤ 9223372036854775807 from ⟨q5, q5'⟩)
                have HR5 := Lib.hid hr5
                clear hr5 e5b q5 q5'
                go_region_held3 (fun V => V.cell? ⟨w.heap.size, 0, none⟩ = some (.int .i64 r.most))
                  (first
                    | with_reducible exact y0
                    | with_reducible exact HX6.out.c0
                    | go_keep)
                  (first
                    | (go_at_call 65; (refine (copied_any A5 _ c5 lft _ (HBq.out) (by exact HR5.out) (by have := (HBq.out); omega)).mono ?_); rintro e w6 ⟨A6, c6, rfl, ho6, hb6⟩
                       rw [← show i = lft.length from HBq.out] at ho6 ⊢
                       have hb6' : Below Z.heap.size Z w6 := (below_drewN' (Below.refl _ _) 1).trans hb6
                       have HX6 := Lib.hid (HXz.out.bel hb6' HXz.out.at)
                       have HB6 := Lib.hid hb6'
                       have HO6 := Lib.hid ho6
                       obtain ⟨v0, v1, v2, v3, v4, v5, v6, v7, z0, z1, z2, z3', z4, z5, z6, z7, zf⟩ := row8 ((HG2.out ▸ HX6.out.res)) rfl
                       have zf0 := zf 0
                       have zf1 := zf 1
                       have zf2 := zf 2
                       have zf3 := zf 3
                       have zf4 := zf 4
                       have zf5 := zf 5
                       have zf6 := zf 6
                       have zf7 := zf 7
                       clear ho6 hb6 hb6' zf))
                all_goals
                  obtain ⟨h8, hg8⟩ := set8 (HG2.out ▸ HX6.out.res) rfl (.int .i64 r.most) (.slice A5 i c5) (.slice A6 i c6) (.int .i64 (i : Nat)) (.bool false) (.int .i64 0) (.int .i64 0) (.int .i64 0)
                  have hr6 := Ow.rdN HO6.out
                  have hrA := (HR5.out.below HB6.out).grownRow (HG2.out ▸ HX6.out.res) zero_no hg8
                  have hrB := hr6.grownRow (HG2.out ▸ HX6.out.res) zero_no hg8
                  have hbz := below_of_grown HX6.out.below hg8 HX6.out.below.size (show w.heap.size ≤ g2 by have := HG2.out; omega)
                  generalize ((((((((w6.setCell ⟨g2, 0, none⟩ (.int .i64 r.most)).setCell ⟨g2, 1, none⟩ (.slice A5 i c5)).setCell ⟨g2, 2, none⟩ (.slice A6 i c6)).setCell ⟨g2, 3, none⟩ (.int .i64 (i : Nat))).setCell ⟨g2, 4, none⟩ (.bool false)).setCell ⟨g2, 5, none⟩ (.int .i64 0)).setCell ⟨g2, 6, none⟩ (.int .i64 0)).setCell ⟨g2, 7, none⟩ (.int .i64 0)) = Z8 at *
                  have H8 : Hid (Z8.heap[g2]? = some (.cells (rfC (r.crash lft) A5 A6 c5 c6) 63 (0, 0))) := by
                    have hN : i = lft.length := HBq.out
                    show Z8.heap[g2]? = _
                    simp only [rfC, RfS.crash]
                    rw [← hN]
                    exact h8
                  have HRA := Lib.hid hrA
                  have HRB := Lib.hid hrB
                  have HBZ := Lib.hid hbz
                  clear h8 hrA hrB hbz hg8 hr6 y0 z0 z1 z2 z3' z4 z5 z6 z7 zf0 zf1 zf2 zf3 zf4 zf5 zf6 zf7
                  go_wp2_with fail
                  refine bodyPost_ret (results_cell_row rfl _ _ (g2) 63 (rfC (r.crash lft) A5 A6 c5 c6) (0, 0) _ rfl H8.out Try.underlying63 rfl rf_size) rfl ?_
                  refine ⟨_, rfl, ?_, HBZ.out⟩
                  rw [HLE.out]
                  exact ⟨A5, c5, A6, c6, rfl, Q5.out.1, Q5.out.2, HRA.out, HRB.out, h6, (show lft.length ≤ r.most by rw [← HBq.out]; omega), (show lft.length ≤ r.most by rw [← HBq.out]; omega), (show lft.length ≤ r.most by rw [← HBq.out]; omega), (by show 0 ≤ 2305843009213693952; decide), (by show 0 ≤ 2305843009213693952; decide)⟩
end Go.Proofs.Ytkmjbfednmidbaa
