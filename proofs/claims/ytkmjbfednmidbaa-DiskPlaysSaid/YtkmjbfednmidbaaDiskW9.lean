/-
  THE WALK OF disk's Crash, what was appended kept. Conditions: the disk lies in memory; the junk reads as a list.
-/
import Derived.Test.YtkmjbfednmidbaaDiskW8
namespace Go.Proofs.Ytkmjbfednmidbaa
open Go.RowKit
set_option linter.unusedSimpArgs false
set_option linter.unusedVariables false


set_option maxRecDepth 100000 in
set_option maxHeartbeats 4000000 in
theorem crash_now {g : Nat} {nb ob : Option Nat} {d : DkS} {w : World} (h : Dk w g nb ob d) (hfl : d.floor ≤ d.now.length) (keep : Int) (hk : 0 ≤ keep) (AJ : Option Addr) (junk : List Nat) (jc : Nat) (hJ : Rd w AJ junk) (hjl : junk.length ≤ 9223372036854775807) :
    Calls Try.prog 23 #[.pointer (some ⟨g, 0, none⟩), .agg #[.int .i64 keep, .slice AJ junk.length jc]] w fun e w' => e = .returned (.int .i64 0) ∧ After w g nb ob (crashD d (crLeft d keep junk)) w' := by
  obtain ⟨B, cb, hcn, hb1, hb2, hN, -⟩ := h.nowC
  obtain ⟨Bo, co, hco, -, -, -, -⟩ := h.oldC
  have hcf := h.c.2.2.1
  have hl : d.now.length ≤ 4194304 := by have := h.wf.now; have := h.wf.most; omega
  have hwf := h.wf
  obtain ⟨m, hm⟩ : ∃ m, m = d.floor + (min keep (d.now.length - d.floor : Nat)).toNat := ⟨_, rfl⟩
  have hml : m ≤ d.now.length := by omega
  have hrt : Rd w B (d.now.take m) := by
    refine ⟨fun x hx => hN.1 x (List.mem_of_mem_take hx), fun hne => ?_⟩
    obtain ⟨b, o, rfl, hb, hc⟩ := hN.2 (by intro e; rw [e] at hne; simp at hne)
    refine ⟨b, o, rfl, hb, fun i hi => ?_⟩
    simp only [List.length_take] at hi
    rw [hc i (by omega)]
    simp [nth, List.getElem?_take, show i < m by omega]
  have H := Lib.hid h
  have HT0 := Lib.hid hrt
  have HW := Lib.hid hwf
  have HJ0 := Lib.hid hJ
  have HM := Lib.hid hm
  have hgl := h.lt
  have e1 : IntKind.i64.wrap ((d.now.length : Int) - d.floor) = d.now.length - d.floor := by simp [IntKind.wrap, IntKind.signed, IntKind.bits]; omega
  have hM : (if (d.now.length : Int) - d.floor < keep then (d.now.length : Int) - d.floor else keep) = (m : Int) - d.floor := by
    split <;> omega
  have e2 : IntKind.i64.wrap ((d.floor : Int) + ((m : Int) - d.floor)) = m := by simp [IntKind.wrap, IntKind.signed, IntKind.bits]; omega
  have k1 : (m : Int) ≤ cb := by omega
  have k2 : m ≤ cb := by omega
  clear h hN hwf hrt hJ hm
  go_enter Try.func23, Try.ntmps23
  go_wp2_with fail
  have hg0 : Below w.heap.size w (w.alloc (.cells #[.int .i64 keep, .slice AJ junk.length jc] 34)) := (Below.refl _ _).alloc (Nat.le_refl _) _
  have c1 : (w.alloc (.cells #[.int .i64 keep, .slice AJ junk.length jc] 34)).cell? ⟨w.heap.size, 0, none⟩ = some (.int .i64 keep) := by rw [cell_of_row _ _ _ _ _ _ (heap_alloc_new w _)]; rfl
  have c2 : (w.alloc (.cells #[.int .i64 keep, .slice AJ junk.length jc] 34)).cell? ⟨w.heap.size, 1, none⟩ = some (.slice AJ junk.length jc) := by rw [cell_of_row _ _ _ _ _ _ (heap_alloc_new w _)]; rfl
  have hzW : w.heap.size < (w.alloc (.cells #[.int .i64 keep, .slice AJ junk.length jc] 34)).heap.size := by simp
  generalize w.alloc (.cells #[.int .i64 keep, .slice AJ junk.length jc] 34) = W at *
  have HD := Lib.hid (H.out.below hg0)
  have HG := Lib.hid (grown_of_below hg0 (some g))
  have HT := Lib.hid (HT0.out.below hg0)
  have HJ := Lib.hid (HJ0.out.below hg0)
  replace hcn := (hg0.cell (p := ⟨g, 2, none⟩) hgl).trans hcn
  replace hco := (hg0.cell (p := ⟨g, 3, none⟩) hgl).trans hco
  replace hcf := (hg0.cell (p := ⟨g, 4, none⟩) hgl).trans hcf
  have C2 := Lib.hid c2
  have CF := Lib.hid hcf
  clear hg0
  refine (none_any HD.out).mono ?_
  rintro e w' ⟨rfl, rfl⟩
  go_wp2_with fail
  refine wp_region_still_tail 23 (by kernel_rfl) (by kernel_rfl) ?_
  simp only [List.take_succ_cons, List.take_zero, List.drop_succ_cons, List.drop_zero]
  repeat still_step
  try refine wpStill_nil ?_
  change wpList _ _ _ _ _ W.drew
  go_wp2_with fail
  refine (clone_ow B m cb (d.now.take m) _ (by simp; omega) HT.out.drew (by simp; omega)).mono ?_
  rintro e w5 ⟨v5, rfl, ho5, hb5⟩
  obtain ⟨base, hbase⟩ : ∃ b, b = d.now.take m := ⟨_, rfl⟩
  have hblen : base.length = m := by rw [hbase]; simp; omega
  rw [← hbase] at ho5
  obtain ⟨A5, c5, hv5, hc5, -, -⟩ := ho5.form
  rw [hblen] at hv5 hc5
  have HO := Lib.hid ho5
  have HBs := Lib.hid hbase
  have HBl := Lib.hid hblen
  have HB5 : Hid (Below W.heap.size W w5) := (below_drewN' (Below.refl _ _) 1).trans hb5
  clear ho5 hbase hblen hb5
  rw [hv5]
  replace hcf := (HB5.out.cell (p := ⟨g, 4, none⟩) (Nat.lt_of_lt_of_le hgl (Nat.le_of_lt hzW))).trans hcf
  have c2' := (HB5.out.cell (p := ⟨w.heap.size, 1, none⟩) hzW).trans C2.out
  clear c1 c2 hcn hco
  have HV5 := Lib.hid hv5
  clear hv5
  obtain ⟨K, hK⟩ : ∃ K, K = (m - 1) / 512 * 512 := ⟨_, rfl⟩
  have eK : wrap64 (((m : Int) - 1).tdiv 512 * 512) = (K : Int) := by
    have e : ((m : Int) - 1).tdiv 512 = (((m - 1) / 512 : Nat) : Int) := by
      rcases Nat.eq_zero_or_pos m with h0 | h0
      · rw [h0]; rfl
      · rw [Int.tdiv_eq_ediv_of_nonneg (by omega)]; omega
    rw [e, hK]
    rw [IntWalk.wrap64_in _ (by omega)]
    omega
  have hFm : crFrom d.floor m = max d.floor K := by unfold crFrom; rw [hK]
  have HFm := Lib.hid hFm
  have HKm : Hid (K ≤ m) := by show K ≤ m; omega
  clear hK hFm
  have hcr : (junk = [] → crLeft d keep junk = base) ∧ (junk ≠ [] → crLeft d keep junk = jk (max d.floor K) junk base m) := by
    unfold crLeft
    rw [if_neg (by omega), ← HM.out, ← HBs.out, HBl.out, ← HFm.out]
    exact ⟨fun h => if_pos h, fun h => if_neg h⟩
  have HCR := Lib.hid hcr
  clear hcr
  by_cases hfK : d.floor < K
  · have k3 : (d.floor : Int) < K := by omega
    have HFF : Hid (max d.floor K = K) := by show _ = _; omega
    rw [HFF.out] at HCR
    have HFle : Hid (K ≤ m) := by show K ≤ m; have := HKm.out; have := HM.out; omega
    clear HFF
    have hm4 : m ≤ 4194304 := by omega
    have hsz5 := HB5.out.size
    have hd5 : Dk w5 g nb ob d := HD.out.below HB5.out
    have hg5 : w.grownBy w5 (some g) := nil_grown HG.out (grown_of_below HB5.out _)
    have HD5 := Lib.hid hd5
    have HG5 := Lib.hid hg5
    clear hd5 hg5
    by_cases hj : junk = []
    · have hj0 : ¬ (0 : Int) < junk.length := by rw [hj]; simp
      have hleft := HCR.out.1 hj
      obtain ⟨lft, hlft⟩ : ∃ l, l = base := ⟨_, rfl⟩
      have hlm : lft.length ≤ d.most := by rw [hlft, HBl.out]; have := HW.out.now; omega
      have hl : lft.length ≤ 5000000 := by rw [hlft, HBl.out]; omega
      have hlen : m = lft.length := by rw [hlft, HBl.out]
      have HL : Hid (Rd w5 A5 lft) := by
        obtain ⟨A', c', e, -, -, hr⟩ := HO.out.form
        rw [HV5.out] at e
        injection e with e1 e2 e3
        subst e1
        rw [hlft]; exact hr
      have HLE := Lib.hid (hleft.trans hlft.symm)
      clear hlft hleft hj
      subst hlen
      have HD := HD5
      have HG := HG5
      go_wp2_with fail
      go_loopw [7] (fun i wr => i = .int .i64 (K : Nat) ∧ wr = w5) (fun _ _ => 0)
      case atStart => exact ⟨rfl, rfl⟩
      case round =>
        obtain ⟨rfl, rfl⟩ := hrel
        have hdec : ((K : Nat) : Int) < (lft.length : Int) ∨ ¬ ((K : Nat) : Int) < (lft.length : Int) := by omega
        rcases hdec with hdec | hdec
        all_goals
          go_wp2_with fail
          refine (clone_lt A5 lft.length c5 lft _ rfl HL.out (by omega)).mono ?_
          rintro e w4 ⟨v1, b1, rfl, ⟨B1, k1, rfl, hs1⟩, hn1, hb1⟩
          have HS1 : Hid (Sl w4 (.slice B1 lft.length k1) lft b1) := ⟨B1, k1, rfl, hs1⟩
          have HN1 := Lib.hid hn1
          have hD4 := HD.out.below hb1
          have hszW4 := hb1.size
          have HG4 := Lib.hid (nil_grown HG.out (grown_of_below hb1 (some g)))
          have HL4 := Lib.hid (HL.out.below hb1)
          clear hb1 hn1 hs1
          have HD4 := Lib.hid hD4
          clear hD4
          go_wp2_with fail
          refine (clone_lt A5 lft.length c5 lft _ rfl HL4.out (by omega)).mono ?_
          rintro e w5 ⟨v2, b2, rfl, ⟨B2, k2, rfl, hs2⟩, hn2, hb2⟩
          have HS1' := Lib.hid (HS1.out.below hb2)
          have HS2 : Hid (Sl w5 (.slice B2 lft.length k2) lft b2) := ⟨B2, k2, rfl, hs2⟩
          have HN2 := Lib.hid hn2
          have hszW45 : w4.heap.size ≤ w5.heap.size := hb2.size
          have HG5 := Lib.hid (nil_grown HG4.out (grown_of_below hb2 (some g)))
          have HD5 := Lib.hid (HD4.out.below hb2)
          have hgl5 := HD4.out.lt
          have hgl4 := HD.out.lt
          have hsz45 := HG4.out.size
          have hszW := HG.out.size
          clear hb2 hn2 hs2
          obtain ⟨nv, ov, hrow, -, -⟩ := HD5.out.lies
          have z2 := hrow.cell (show 2 < 9 by omega)
          have z3 := hrow.cell (show 3 < 9 by omega)
          obtain ⟨-, -, z4, z5, z6, z7, -⟩ := HD5.out.c
          have f2 := HD5.out.fz 2
          have f3 := HD5.out.fz 3
          have f4 := HD5.out.fz 4
          have f5 := HD5.out.fz 5
          have f6 := HD5.out.fz 6
          have f7 := HD5.out.fz 7
          have HR5 := Lib.hid hrow
          clear hrow
          go_wp2_with fail
          go_ret
          refine ⟨rfl, ?_⟩
          rw [HLE.out]
          have n1 : ∀ k, b1 = some k → wr.heap.size ≤ k := fun k e => (HN1.out k e).1
          have n2 : ∀ k, b2 = some k → w4.heap.size ≤ k := fun k e => (HN2.out k e).1
          have hW4 : wr.heap.size ≤ w4.heap.size := hszW4
          refine ⟨b1, b2, ⟨?_, fun e => by have := n1 _ e; omega, fun e => by have := n2 _ e; omega, fun k e => Nat.lt_of_lt_of_le (HN1.out k e).2 (Nat.le_trans hszW45 (grown_set6 (grown_refl w5 (some g)) _ _ _ _ _ _).size), fun k e => Nat.lt_of_lt_of_le (HN2.out k e).2 (grown_set6 (grown_refl w5 (some g)) _ _ _ _ _ _).size, _, _, ((((((HR5.out.set 2 _).set 3 _).set 4 _).set 5 _).set 6 _).set 7 _).congr fun i hi => ?_, HS1'.out.grown (grown_set6 (grown_refl _ _) _ _ _ _ _ _) (fun k e e2 => by injection e2 with e2; have := n1 k e; omega), HS2.out.grown (grown_set6 (grown_refl _ _) _ _ _ _ _ _) (fun k e e2 => by injection e2 with e2; have := n2 k e; omega)⟩, .inl (.inr fun k e => by have := n1 k e; omega), .inl (.inr fun k e => by have := n2 k e; omega), grown_set6 HG5.out _ _ _ _ _ _⟩
          · obtain ⟨q1, q2, q3, q4, q5, q6, q7⟩ := HW.out
            exact ⟨q1, hlm, hlm, hlm, by show (-1 : Int) ≤ -1; omega, by show (-1 : Int) ≤ _; omega, by show 0 ≤ _; omega⟩
          · match i, hi with
            | 0, _ => rfl
            | 1, _ => rfl
            | 2, _ => rfl
            | 3, _ => rfl
            | 4, _ => rfl
            | 5, _ => rfl
            | 6, _ => rfl
            | 7, _ => rfl
            | 8, _ => rfl
    · have hj0 : (0 : Int) < junk.length := by have := List.length_pos_iff.2 hj; omega
      have hj1 : 0 < junk.length := List.length_pos_iff.2 hj
      have hleft := HCR.out.2 hj
      obtain ⟨gj, oj, hAJ, hgj, hcj⟩ := HJ.out.2 hj
      have HCJ := Lib.hid hcj
      have hob : Ow w5 W.heap.size (.slice A5 m c5) base := by have := HO.out; rw [HV5.out] at this; exact this
      have hbl : ∀ x ∈ base, x < 256 := hob.1
      have HOB := Lib.hid hob
      have HLE := Lib.hid hleft
      have HHJ := Lib.hid hj
      have HJL := Lib.hid HJ.out.1
      clear hcj hob hleft hj
      subst hAJ
      go_wp2_with fail
      go_loopw [7] (fun i wr => ∃ q : Nat, i = .int .i64 q ∧ K ≤ q ∧ q ≤ m ∧ Ow wr W.heap.size (.slice A5 m c5) (jk K junk base q) ∧ Below W.heap.size W wr) (fun i _ => m - (intOf i).toNat)
      case atStart => exact ⟨K, rfl, Nat.le_refl _, HFle.out, by rw [jk_zero _ _ _ (Nat.le_refl _)]; exact HOB.out, HB5.out⟩
      case round =>
        obtain ⟨q, rfl, hq1, hq2, ho, hb⟩ := hrel
        by_cases hqm : q < m
        · have k5 : (q : Int) < m := by omega
          have hlen : (jk K junk base q).length = m := by rw [jk_length, HBl.out]
          obtain ⟨g5, c5', e5, -, hg5, hg5l, hcell, hfr⟩ := ho.form0 (by intro e; rw [e] at hlen; simp at hlen; omega)
          injection e5 with e5 e6 e7
          subst e5
          clear e6 e7
          have x1 : wr.cell? ⟨g5, q, none⟩ = some (.int .u8 (nth (jk K junk base q) q : Nat)) := hcell q (by rw [hlen]; exact hqm)
          have x2 := hfr q
          have x3 := (hb.cell (p := ⟨w.heap.size, 1, none⟩) hzW).trans C2.out
          have hr : (q - K) % junk.length < junk.length := Nat.mod_lt _ hj1
          have x4 : wr.cell? ⟨gj, oj + (q - K) % junk.length, none⟩ = some (.int .u8 (nth junk ((q - K) % junk.length) : Nat)) := (hb.cell (p := ⟨gj, _, none⟩) hgj).trans (HCJ.out _ hr)
          have y1 : IntKind.i64.wrap ((q : Int) - (K : Nat)) = q - (K : Nat) := by simp [IntKind.wrap, IntKind.signed, IntKind.bits]; omega
          have y2 : ((q : Int) - (K : Nat)).tmod (junk.length : Int) = (((q - K) % junk.length : Nat) : Int) := by
            rw [Int.tmod_eq_emod_of_nonneg (by omega), show (q : Int) - (K : Nat) = ((q - K : Nat) : Int) by omega, ← Int.natCast_emod]
          have y3 : ((((q - K) % junk.length : Nat) : Int)) < junk.length := Int.ofNat_lt.2 hr
          have hjz := HHJ.out
          have hjz2 : ((junk.length : Int) == 0) = false := by rw [beq_eq_false_iff_ne]; omega
          have hx256 := nth_lt HJL.out ((q - K) % junk.length)
          have HO1 := Lib.hid ho
          have HB1 := Lib.hid hb
          have HLN := Lib.hid hlen
          generalize hxx : nth junk ((q - K) % junk.length) = x at *
          have HXX := Lib.hid hxx
          generalize hrr : (q - K) % junk.length = r at *
          have HRR := Lib.hid hrr
          clear hrr
          clear ho hb hcell hfr hlen hxx
          go_wp2_with fail
          refine wp_region_still_tail 14 (by kernel_rfl) (by kernel_rfl) ?_
          simp only [List.take_succ_cons, List.take_zero, List.drop_succ_cons, List.drop_zero]
          repeat still_step
          try refine wpStill_nil ?_
          change wpList _ _ _ _ _ wr.drew
          go_wp2_with fail
          have hq9 : IntKind.i64.wrap ((q : Int) + 1) = q + 1 := by simp [IntKind.wrap, IntKind.signed, IntKind.bits]; omega
          have HOx := Lib.hid (HO1.out.drew.set (i := q) (by rw [HLN.out]; exact hqm) hx256)
          have HBx := Lib.hid (HB1.out.drew.setCell (p := ⟨g5, q, none⟩) (by show W.heap.size ≤ g5; exact hg5) (.int .u8 (x : Nat)))
          go_roundw
          case rel =>
            have hjk : Ow (wr.drew.setCell ⟨g5, q, none⟩ (.int .u8 (x : Nat))) W.heap.size (.slice (some ⟨g5, 0, none⟩) m c5) (jk K junk base (q + 1)) := by
              rw [jk_step _ _ _ hq1 (by rw [HBl.out]; exact hqm), HRR.out, HXX.out]
              exact HOx.out
            first
              | exact ⟨q + 1, by go_num, by omega, by omega, hjk, HBx.out⟩
              | (rw [eK]; (repeat apply Exists.intro); refine ⟨⟨q + 1, ?_, by omega, by omega, hjk, HBx.out⟩, rfl⟩; go_num)
          case measure => simp [intOf]; omega
        · obtain rfl : q = m := by omega
          obtain ⟨lft, hlft⟩ : ∃ l, l = jk K junk base q := ⟨_, rfl⟩
          have hlen : q = lft.length := by rw [hlft, jk_length, HBl.out]
          have hlm : lft.length ≤ d.most := by rw [← hlen]; have := HW.out.now; omega
          have hl : lft.length ≤ 5000000 := by rw [← hlen]; omega
          have HL : Hid (Rd wr A5 lft) := by
            obtain ⟨A', c', e, -, -, hr⟩ := ho.form
            injection e with e1 e2 e3
            subst e1
            rw [hlft]; exact hr
          have HD : Hid (Dk wr g nb ob d) := HD.out.below hb
          have HG : Hid (w.grownBy wr (some g)) := nil_grown HG.out (grown_of_below hb _)
          replace HLE := Lib.hid (HLE.out.trans hlft.symm)
          clear ho hb hlft
          subst hlen
          have k5 : ¬ (lft.length : Int) < (lft.length : Int) := by omega
          go_wp2_with fail
          refine (clone_lt A5 lft.length c5 lft _ rfl HL.out (by omega)).mono ?_
          rintro e w4 ⟨v1, b1, rfl, ⟨B1, k1, rfl, hs1⟩, hn1, hb1⟩
          have HS1 : Hid (Sl w4 (.slice B1 lft.length k1) lft b1) := ⟨B1, k1, rfl, hs1⟩
          have HN1 := Lib.hid hn1
          have hD4 := HD.out.below hb1
          have hszW4 := hb1.size
          have HG4 := Lib.hid (nil_grown HG.out (grown_of_below hb1 (some g)))
          have HL4 := Lib.hid (HL.out.below hb1)
          clear hb1 hn1 hs1
          have HD4 := Lib.hid hD4
          clear hD4
          go_wp2_with fail
          refine (clone_lt A5 lft.length c5 lft _ rfl HL4.out (by omega)).mono ?_
          rintro e w5 ⟨v2, b2, rfl, ⟨B2, k2, rfl, hs2⟩, hn2, hb2⟩
          have HS1' := Lib.hid (HS1.out.below hb2)
          have HS2 : Hid (Sl w5 (.slice B2 lft.length k2) lft b2) := ⟨B2, k2, rfl, hs2⟩
          have HN2 := Lib.hid hn2
          have hszW45 : w4.heap.size ≤ w5.heap.size := hb2.size
          have HG5 := Lib.hid (nil_grown HG4.out (grown_of_below hb2 (some g)))
          have HD5 := Lib.hid (HD4.out.below hb2)
          have hgl5 := HD4.out.lt
          have hgl4 := HD.out.lt
          have hsz45 := HG4.out.size
          have hszW := HG.out.size
          clear hb2 hn2 hs2
          obtain ⟨nv, ov, hrow, -, -⟩ := HD5.out.lies
          have z2 := hrow.cell (show 2 < 9 by omega)
          have z3 := hrow.cell (show 3 < 9 by omega)
          obtain ⟨-, -, z4, z5, z6, z7, -⟩ := HD5.out.c
          have f2 := HD5.out.fz 2
          have f3 := HD5.out.fz 3
          have f4 := HD5.out.fz 4
          have f5 := HD5.out.fz 5
          have f6 := HD5.out.fz 6
          have f7 := HD5.out.fz 7
          have HR5 := Lib.hid hrow
          clear hrow
          go_wp2_with fail
          go_ret
          refine ⟨rfl, ?_⟩
          rw [HLE.out]
          have n1 : ∀ k, b1 = some k → wr.heap.size ≤ k := fun k e => (HN1.out k e).1
          have n2 : ∀ k, b2 = some k → w4.heap.size ≤ k := fun k e => (HN2.out k e).1
          have hW4 : wr.heap.size ≤ w4.heap.size := hszW4
          refine ⟨b1, b2, ⟨?_, fun e => by have := n1 _ e; omega, fun e => by have := n2 _ e; omega, fun k e => Nat.lt_of_lt_of_le (HN1.out k e).2 (Nat.le_trans hszW45 (grown_set6 (grown_refl w5 (some g)) _ _ _ _ _ _).size), fun k e => Nat.lt_of_lt_of_le (HN2.out k e).2 (grown_set6 (grown_refl w5 (some g)) _ _ _ _ _ _).size, _, _, ((((((HR5.out.set 2 _).set 3 _).set 4 _).set 5 _).set 6 _).set 7 _).congr fun i hi => ?_, HS1'.out.grown (grown_set6 (grown_refl _ _) _ _ _ _ _ _) (fun k e e2 => by injection e2 with e2; have := n1 k e; omega), HS2.out.grown (grown_set6 (grown_refl _ _) _ _ _ _ _ _) (fun k e e2 => by injection e2 with e2; have := n2 k e; omega)⟩, .inl (.inr fun k e => by have := n1 k e; omega), .inl (.inr fun k e => by have := n2 k e; omega), grown_set6 HG5.out _ _ _ _ _ _⟩
          · obtain ⟨q1, q2, q3, q4, q5, q6, q7⟩ := HW.out
            exact ⟨q1, hlm, hlm, hlm, by show (-1 : Int) ≤ -1; omega, by show (-1 : Int) ≤ _; omega, by show 0 ≤ _; omega⟩
          · match i, hi with
            | 0, _ => rfl
            | 1, _ => rfl
            | 2, _ => rfl
            | 3, _ => rfl
            | 4, _ => rfl
            | 5, _ => rfl
            | 6, _ => rfl
            | 7, _ => rfl
            | 8, _ => rfl
  · have k3 : ¬ (d.floor : Int) < K := by omega
    have HFF : Hid (max d.floor K = d.floor) := by show _ = _; omega
    rw [HFF.out] at HCR
    have HFle : Hid (d.floor ≤ m) := by show d.floor ≤ m; have := HKm.out; have := HM.out; omega
    clear HFF
    have hm4 : m ≤ 4194304 := by omega
    have hsz5 := HB5.out.size
    have hd5 : Dk w5 g nb ob d := HD.out.below HB5.out
    have hg5 : w.grownBy w5 (some g) := nil_grown HG.out (grown_of_below HB5.out _)
    have HD5 := Lib.hid hd5
    have HG5 := Lib.hid hg5
    clear hd5 hg5
    by_cases hj : junk = []
    · have hj0 : ¬ (0 : Int) < junk.length := by rw [hj]; simp
      have hleft := HCR.out.1 hj
      obtain ⟨lft, hlft⟩ : ∃ l, l = base := ⟨_, rfl⟩
      have hlm : lft.length ≤ d.most := by rw [hlft, HBl.out]; have := HW.out.now; omega
      have hl : lft.length ≤ 5000000 := by rw [hlft, HBl.out]; omega
      have hlen : m = lft.length := by rw [hlft, HBl.out]
      have HL : Hid (Rd w5 A5 lft) := by
        obtain ⟨A', c', e, -, -, hr⟩ := HO.out.form
        rw [HV5.out] at e
        injection e with e1 e2 e3
        subst e1
        rw [hlft]; exact hr
      have HLE := Lib.hid (hleft.trans hlft.symm)
      clear hlft hleft hj
      subst hlen
      have HD := HD5
      have HG := HG5
      go_wp2_with fail
      go_loopw [7] (fun i wr => i = .int .i64 (d.floor : Nat) ∧ wr = w5) (fun _ _ => 0)
      case atStart => exact ⟨rfl, rfl⟩
      case round =>
        obtain ⟨rfl, rfl⟩ := hrel
        have hdec : ((d.floor : Nat) : Int) < (lft.length : Int) ∨ ¬ ((d.floor : Nat) : Int) < (lft.length : Int) := by omega
        rcases hdec with hdec | hdec
        all_goals
          go_wp2_with fail
          refine (clone_lt A5 lft.length c5 lft _ rfl HL.out (by omega)).mono ?_
          rintro e w4 ⟨v1, b1, rfl, ⟨B1, k1, rfl, hs1⟩, hn1, hb1⟩
          have HS1 : Hid (Sl w4 (.slice B1 lft.length k1) lft b1) := ⟨B1, k1, rfl, hs1⟩
          have HN1 := Lib.hid hn1
          have hD4 := HD.out.below hb1
          have hszW4 := hb1.size
          have HG4 := Lib.hid (nil_grown HG.out (grown_of_below hb1 (some g)))
          have HL4 := Lib.hid (HL.out.below hb1)
          clear hb1 hn1 hs1
          have HD4 := Lib.hid hD4
          clear hD4
          go_wp2_with fail
          refine (clone_lt A5 lft.length c5 lft _ rfl HL4.out (by omega)).mono ?_
          rintro e w5 ⟨v2, b2, rfl, ⟨B2, k2, rfl, hs2⟩, hn2, hb2⟩
          have HS1' := Lib.hid (HS1.out.below hb2)
          have HS2 : Hid (Sl w5 (.slice B2 lft.length k2) lft b2) := ⟨B2, k2, rfl, hs2⟩
          have HN2 := Lib.hid hn2
          have hszW45 : w4.heap.size ≤ w5.heap.size := hb2.size
          have HG5 := Lib.hid (nil_grown HG4.out (grown_of_below hb2 (some g)))
          have HD5 := Lib.hid (HD4.out.below hb2)
          have hgl5 := HD4.out.lt
          have hgl4 := HD.out.lt
          have hsz45 := HG4.out.size
          have hszW := HG.out.size
          clear hb2 hn2 hs2
          obtain ⟨nv, ov, hrow, -, -⟩ := HD5.out.lies
          have z2 := hrow.cell (show 2 < 9 by omega)
          have z3 := hrow.cell (show 3 < 9 by omega)
          obtain ⟨-, -, z4, z5, z6, z7, -⟩ := HD5.out.c
          have f2 := HD5.out.fz 2
          have f3 := HD5.out.fz 3
          have f4 := HD5.out.fz 4
          have f5 := HD5.out.fz 5
          have f6 := HD5.out.fz 6
          have f7 := HD5.out.fz 7
          have HR5 := Lib.hid hrow
          clear hrow
          go_wp2_with fail
          go_ret
          refine ⟨rfl, ?_⟩
          rw [HLE.out]
          have n1 : ∀ k, b1 = some k → wr.heap.size ≤ k := fun k e => (HN1.out k e).1
          have n2 : ∀ k, b2 = some k → w4.heap.size ≤ k := fun k e => (HN2.out k e).1
          have hW4 : wr.heap.size ≤ w4.heap.size := hszW4
          refine ⟨b1, b2, ⟨?_, fun e => by have := n1 _ e; omega, fun e => by have := n2 _ e; omega, fun k e => Nat.lt_of_lt_of_le (HN1.out k e).2 (Nat.le_trans hszW45 (grown_set6 (grown_refl w5 (some g)) _ _ _ _ _ _).size), fun k e => Nat.lt_of_lt_of_le (HN2.out k e).2 (grown_set6 (grown_refl w5 (some g)) _ _ _ _ _ _).size, _, _, ((((((HR5.out.set 2 _).set 3 _).set 4 _).set 5 _).set 6 _).set 7 _).congr fun i hi => ?_, HS1'.out.grown (grown_set6 (grown_refl _ _) _ _ _ _ _ _) (fun k e e2 => by injection e2 with e2; have := n1 k e; omega), HS2.out.grown (grown_set6 (grown_refl _ _) _ _ _ _ _ _) (fun k e e2 => by injection e2 with e2; have := n2 k e; omega)⟩, .inl (.inr fun k e => by have := n1 k e; omega), .inl (.inr fun k e => by have := n2 k e; omega), grown_set6 HG5.out _ _ _ _ _ _⟩
          · obtain ⟨q1, q2, q3, q4, q5, q6, q7⟩ := HW.out
            exact ⟨q1, hlm, hlm, hlm, by show (-1 : Int) ≤ -1; omega, by show (-1 : Int) ≤ _; omega, by show 0 ≤ _; omega⟩
          · match i, hi with
            | 0, _ => rfl
            | 1, _ => rfl
            | 2, _ => rfl
            | 3, _ => rfl
            | 4, _ => rfl
            | 5, _ => rfl
            | 6, _ => rfl
            | 7, _ => rfl
            | 8, _ => rfl
    · have hj0 : (0 : Int) < junk.length := by have := List.length_pos_iff.2 hj; omega
      have hj1 : 0 < junk.length := List.length_pos_iff.2 hj
      have hleft := HCR.out.2 hj
      obtain ⟨gj, oj, hAJ, hgj, hcj⟩ := HJ.out.2 hj
      have HCJ := Lib.hid hcj
      have hob : Ow w5 W.heap.size (.slice A5 m c5) base := by have := HO.out; rw [HV5.out] at this; exact this
      have hbl : ∀ x ∈ base, x < 256 := hob.1
      have HOB := Lib.hid hob
      have HLE := Lib.hid hleft
      have HHJ := Lib.hid hj
      have HJL := Lib.hid HJ.out.1
      clear hcj hob hleft hj
      subst hAJ
      go_wp2_with fail
      go_loopw [7] (fun i wr => ∃ q : Nat, i = .int .i64 q ∧ d.floor ≤ q ∧ q ≤ m ∧ Ow wr W.heap.size (.slice A5 m c5) (jk d.floor junk base q) ∧ Below W.heap.size W wr) (fun i _ => m - (intOf i).toNat)
      case atStart => exact ⟨d.floor, rfl, Nat.le_refl _, HFle.out, by rw [jk_zero _ _ _ (Nat.le_refl _)]; exact HOB.out, HB5.out⟩
      case round =>
        obtain ⟨q, rfl, hq1, hq2, ho, hb⟩ := hrel
        by_cases hqm : q < m
        · have k5 : (q : Int) < m := by omega
          have hlen : (jk d.floor junk base q).length = m := by rw [jk_length, HBl.out]
          obtain ⟨g5, c5', e5, -, hg5, hg5l, hcell, hfr⟩ := ho.form0 (by intro e; rw [e] at hlen; simp at hlen; omega)
          injection e5 with e5 e6 e7
          subst e5
          clear e6 e7
          have x1 : wr.cell? ⟨g5, q, none⟩ = some (.int .u8 (nth (jk d.floor junk base q) q : Nat)) := hcell q (by rw [hlen]; exact hqm)
          have x2 := hfr q
          have x3 := (hb.cell (p := ⟨w.heap.size, 1, none⟩) hzW).trans C2.out
          have hr : (q - d.floor) % junk.length < junk.length := Nat.mod_lt _ hj1
          have x4 : wr.cell? ⟨gj, oj + (q - d.floor) % junk.length, none⟩ = some (.int .u8 (nth junk ((q - d.floor) % junk.length) : Nat)) := (hb.cell (p := ⟨gj, _, none⟩) hgj).trans (HCJ.out _ hr)
          have y1 : IntKind.i64.wrap ((q : Int) - (d.floor : Nat)) = q - (d.floor : Nat) := by simp [IntKind.wrap, IntKind.signed, IntKind.bits]; omega
          have y2 : ((q : Int) - (d.floor : Nat)).tmod (junk.length : Int) = (((q - d.floor) % junk.length : Nat) : Int) := by
            rw [Int.tmod_eq_emod_of_nonneg (by omega), show (q : Int) - (d.floor : Nat) = ((q - d.floor : Nat) : Int) by omega, ← Int.natCast_emod]
          have y3 : ((((q - d.floor) % junk.length : Nat) : Int)) < junk.length := Int.ofNat_lt.2 hr
          have hjz := HHJ.out
          have hjz2 : ((junk.length : Int) == 0) = false := by rw [beq_eq_false_iff_ne]; omega
          have hx256 := nth_lt HJL.out ((q - d.floor) % junk.length)
          have HO1 := Lib.hid ho
          have HB1 := Lib.hid hb
          have HLN := Lib.hid hlen
          generalize hxx : nth junk ((q - d.floor) % junk.length) = x at *
          have HXX := Lib.hid hxx
          generalize hrr : (q - d.floor) % junk.length = r at *
          have HRR := Lib.hid hrr
          clear hrr
          clear ho hb hcell hfr hlen hxx
          go_wp2_with fail
          refine wp_region_still_tail 14 (by kernel_rfl) (by kernel_rfl) ?_
          simp only [List.take_succ_cons, List.take_zero, List.drop_succ_cons, List.drop_zero]
          repeat still_step
          try refine wpStill_nil ?_
          change wpList _ _ _ _ _ wr.drew
          go_wp2_with fail
          have hq9 : IntKind.i64.wrap ((q : Int) + 1) = q + 1 := by simp [IntKind.wrap, IntKind.signed, IntKind.bits]; omega
          have HOx := Lib.hid (HO1.out.drew.set (i := q) (by rw [HLN.out]; exact hqm) hx256)
          have HBx := Lib.hid (HB1.out.drew.setCell (p := ⟨g5, q, none⟩) (by show W.heap.size ≤ g5; exact hg5) (.int .u8 (x : Nat)))
          go_roundw
          case rel =>
            have hjk : Ow (wr.drew.setCell ⟨g5, q, none⟩ (.int .u8 (x : Nat))) W.heap.size (.slice (some ⟨g5, 0, none⟩) m c5) (jk d.floor junk base (q + 1)) := by
              rw [jk_step _ _ _ hq1 (by rw [HBl.out]; exact hqm), HRR.out, HXX.out]
              exact HOx.out
            first
              | exact ⟨q + 1, by go_num, by omega, by omega, hjk, HBx.out⟩
              | (rw [eK]; (repeat apply Exists.intro); refine ⟨⟨q + 1, ?_, by omega, by omega, hjk, HBx.out⟩, rfl⟩; go_num)
          case measure => simp [intOf]; omega
        · obtain rfl : q = m := by omega
          obtain ⟨lft, hlft⟩ : ∃ l, l = jk d.floor junk base q := ⟨_, rfl⟩
          have hlen : q = lft.length := by rw [hlft, jk_length, HBl.out]
          have hlm : lft.length ≤ d.most := by rw [← hlen]; have := HW.out.now; omega
          have hl : lft.length ≤ 5000000 := by rw [← hlen]; omega
          have HL : Hid (Rd wr A5 lft) := by
            obtain ⟨A', c', e, -, -, hr⟩ := ho.form
            injection e with e1 e2 e3
            subst e1
            rw [hlft]; exact hr
          have HD : Hid (Dk wr g nb ob d) := HD.out.below hb
          have HG : Hid (w.grownBy wr (some g)) := nil_grown HG.out (grown_of_below hb _)
          replace HLE := Lib.hid (HLE.out.trans hlft.symm)
          clear ho hb hlft
          subst hlen
          have k5 : ¬ (lft.length : Int) < (lft.length : Int) := by omega
          go_wp2_with fail
          refine (clone_lt A5 lft.length c5 lft _ rfl HL.out (by omega)).mono ?_
          rintro e w4 ⟨v1, b1, rfl, ⟨B1, k1, rfl, hs1⟩, hn1, hb1⟩
          have HS1 : Hid (Sl w4 (.slice B1 lft.length k1) lft b1) := ⟨B1, k1, rfl, hs1⟩
          have HN1 := Lib.hid hn1
          have hD4 := HD.out.below hb1
          have hszW4 := hb1.size
          have HG4 := Lib.hid (nil_grown HG.out (grown_of_below hb1 (some g)))
          have HL4 := Lib.hid (HL.out.below hb1)
          clear hb1 hn1 hs1
          have HD4 := Lib.hid hD4
          clear hD4
          go_wp2_with fail
          refine (clone_lt A5 lft.length c5 lft _ rfl HL4.out (by omega)).mono ?_
          rintro e w5 ⟨v2, b2, rfl, ⟨B2, k2, rfl, hs2⟩, hn2, hb2⟩
          have HS1' := Lib.hid (HS1.out.below hb2)
          have HS2 : Hid (Sl w5 (.slice B2 lft.length k2) lft b2) := ⟨B2, k2, rfl, hs2⟩
          have HN2 := Lib.hid hn2
          have hszW45 : w4.heap.size ≤ w5.heap.size := hb2.size
          have HG5 := Lib.hid (nil_grown HG4.out (grown_of_below hb2 (some g)))
          have HD5 := Lib.hid (HD4.out.below hb2)
          have hgl5 := HD4.out.lt
          have hgl4 := HD.out.lt
          have hsz45 := HG4.out.size
          have hszW := HG.out.size
          clear hb2 hn2 hs2
          obtain ⟨nv, ov, hrow, -, -⟩ := HD5.out.lies
          have z2 := hrow.cell (show 2 < 9 by omega)
          have z3 := hrow.cell (show 3 < 9 by omega)
          obtain ⟨-, -, z4, z5, z6, z7, -⟩ := HD5.out.c
          have f2 := HD5.out.fz 2
          have f3 := HD5.out.fz 3
          have f4 := HD5.out.fz 4
          have f5 := HD5.out.fz 5
          have f6 := HD5.out.fz 6
          have f7 := HD5.out.fz 7
          have HR5 := Lib.hid hrow
          clear hrow
          go_wp2_with fail
          go_ret
          refine ⟨rfl, ?_⟩
          rw [HLE.out]
          have n1 : ∀ k, b1 = some k → wr.heap.size ≤ k := fun k e => (HN1.out k e).1
          have n2 : ∀ k, b2 = some k → w4.heap.size ≤ k := fun k e => (HN2.out k e).1
          have hW4 : wr.heap.size ≤ w4.heap.size := hszW4
          refine ⟨b1, b2, ⟨?_, fun e => by have := n1 _ e; omega, fun e => by have := n2 _ e; omega, fun k e => Nat.lt_of_lt_of_le (HN1.out k e).2 (Nat.le_trans hszW45 (grown_set6 (grown_refl w5 (some g)) _ _ _ _ _ _).size), fun k e => Nat.lt_of_lt_of_le (HN2.out k e).2 (grown_set6 (grown_refl w5 (some g)) _ _ _ _ _ _).size, _, _, ((((((HR5.out.set 2 _).set 3 _).set 4 _).set 5 _).set 6 _).set 7 _).congr fun i hi => ?_, HS1'.out.grown (grown_set6 (grown_refl _ _) _ _ _ _ _ _) (fun k e e2 => by injection e2 with e2; have := n1 k e; omega), HS2.out.grown (grown_set6 (grown_refl _ _) _ _ _ _ _ _) (fun k e e2 => by injection e2 with e2; have := n2 k e; omega)⟩, .inl (.inr fun k e => by have := n1 k e; omega), .inl (.inr fun k e => by have := n2 k e; omega), grown_set6 HG5.out _ _ _ _ _ _⟩
          · obtain ⟨q1, q2, q3, q4, q5, q6, q7⟩ := HW.out
            exact ⟨q1, hlm, hlm, hlm, by show (-1 : Int) ≤ -1; omega, by show (-1 : Int) ≤ _; omega, by show 0 ≤ _; omega⟩
          · match i, hi with
            | 0, _ => rfl
            | 1, _ => rfl
            | 2, _ => rfl
            | 3, _ => rfl
            | 4, _ => rfl
            | 5, _ => rfl
            | 6, _ => rfl
            | 7, _ => rfl
            | 8, _ => rfl
end Go.Proofs.Ytkmjbfednmidbaa
