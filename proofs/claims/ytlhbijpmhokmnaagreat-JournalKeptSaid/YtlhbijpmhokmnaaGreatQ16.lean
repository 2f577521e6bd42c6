/-
  THE WALK OF disk's Crash. Conditions: the disk lies in memory; the junk reads as a list.
  THE WALK OF disk's Crash, what was appended kept. Conditions: the disk lies in memory; the junk reads as a list.
  THE WALK OF disk's ReadAt. Conditions: the disk lies in memory.
-/
import Derived.Test.YtlhbijpmhokmnaaGreatQ15
import Derived.StillTailTactics
namespace Go.Proofs.YtlhbijpmhokmnaaGreat
open Go.RowKit
set_option linter.unusedSimpArgs false
set_option linter.unusedVariables false

theorem clone_ow (A : Option Addr) (n c : Nat) (l : List Nat) (w : World) (hn : n = l.length) (h : Rd w A l) (hl : l.length ≤ 140737488355328) :
    Calls Tryz.prog 29 #[.slice A n c] w fun e w' => ∃ v, e = .returned v ∧ Ow w' w.heap.size v l ∧ Below w.heap.size w w' := by
  rcases A with _ | ad
  · have hln : l = [] := by
      cases l with
      | nil => rfl
      | cons a t => obtain ⟨g, o, e, _⟩ := h.2 (by simp); cases e
    subst hln
    subst hn
    have hq := fun W : World => Lib.run_eql_slice_nil (P := Tryz.prog) (w := W)
    go_enter Tryz.func29, Tryz.ntmps29
    go_wp2
    go_ret
    exact ⟨_, rfl, Ow.nil _ _, Below.refl _ _⟩
  · have HA := Lib.hid h
    have HN := Lib.hid hn
    clear h hn
    have hq := fun W : World => Lib.run_eql_slice_nil (P := Tryz.prog) (w := W)
    go_enter Tryz.func29, Tryz.ntmps29
    go_wp2_with (at_builtin; refine append_bytes (.tmp 5) (.tmp 6) rfl rfl rfl (Ow.zero w) (some ad) n c l rfl HN.out (HA.out.alloc _) (by simpa using hl) (by simp) ?_; intro v1 w1 ho1 hg1 ha1)
    go_ret
    exact ⟨v1, rfl, by simpa using ho1, ((Below.refl _ _).alloc (Nat.le_refl _) _).grown hg1 (by simp) (fun k hk => by have hk : some w.heap.size = some k := hk; injection hk with hk; omega)⟩

/-- What a crash leaves. -/
def jk (from' : Nat) (junk base : List Nat) (i : Nat) : List Nat := (List.range base.length).map fun j => if from' ≤ j ∧ j < i then nth junk ((j - from') % junk.length) else nth base j
def crFrom (floor n : Nat) : Nat := max floor ((n - 1) / 512 * 512)
def crLeft (d : DkS) (keep : Int) (junk : List Nat) : List Nat :=
  if keep < 0 then d.old
  else (if junk = [] then d.now.take (d.floor + (min keep (d.now.length - d.floor : Nat)).toNat)
    else jk (crFrom d.floor (d.now.take (d.floor + (min keep (d.now.length - d.floor : Nat)).toNat)).length) junk (d.now.take (d.floor + (min keep (d.now.length - d.floor : Nat)).toNat)) (d.now.take (d.floor + (min keep (d.now.length - d.floor : Nat)).toNat)).length)
def crashD (d : DkS) (left : List Nat) : DkS := { d with now := left, old := left, floor := left.length, down := false, armed := -1, fails := 0 }
theorem jk_length (f : Nat) (junk base : List Nat) (i : Nat) : (jk f junk base i).length = base.length := by simp [jk]
theorem jk_zero (f : Nat) (junk base : List Nat) {i : Nat} (h : i ≤ f) : jk f junk base i = base := by
  apply List.ext_getElem (by simp [jk])
  intro k h1 h2
  simp only [jk, List.getElem_map, List.getElem_range]
  rw [if_neg (by omega), nth_get h2]
theorem jk_step (f : Nat) (junk base : List Nat) {i : Nat} (h : f ≤ i) (hi : i < base.length) : jk f junk base (i + 1) = (jk f junk base i).set i (nth junk ((i - f) % junk.length)) := by
  apply List.ext_getElem (by simp [jk])
  intro k h1 h2
  rw [List.getElem_set]
  simp only [jk, List.getElem_map, List.getElem_range]
  by_cases e : i = k
  · subst e
    rw [if_pos (by omega), if_pos rfl]
  · rw [if_neg e]
    by_cases e2 : f ≤ k ∧ k < i
    · rw [if_pos e2, if_pos (by omega)]
    · rw [if_neg e2, if_neg (by omega)]

theorem grown_set6 {w W : World} {g : Nat} (hg : w.grownBy W (some g)) (a b c d e f : Value) :
    w.grownBy ((((((W.setCell ⟨g, 2, none⟩ a).setCell ⟨g, 3, none⟩ b).setCell ⟨g, 4, none⟩ c).setCell ⟨g, 5, none⟩ d).setCell ⟨g, 6, none⟩ e).setCell ⟨g, 7, none⟩ f) (some g) :=
  grown_set2 (grown_set2 (grown_set2 hg 2 3 a b) 4 5 c d) 6 7 e f
set_option maxRecDepth 100000 in
set_option maxHeartbeats 2000000 in
theorem crash_old {g : Nat} {nb ob : Option Nat} {d : DkS} {w : World} (h : Dk w g nb ob d) (keep : Int) (hk : keep < 0) (AJ : Option Addr) (jn jc : Nat) :
    Calls Tryz.prog 23 #[.pointer (some ⟨g, 0, none⟩), .agg #[.int .i64 keep, .slice AJ jn jc]] w fun e w' => e = .returned (.int .i64 0) ∧ After w g nb ob (crashD d d.old) w' := by
  obtain ⟨LA, lc, hco, -, -, hL, -⟩ := h.oldC
  have hl : d.old.length ≤ 5000000 := by have := h.wf.old; have := h.wf.most; omega
  have hwf := h.wf
  have k0 : ¬ 0 ≤ keep := by omega
  have H := Lib.hid h
  have HL0 := Lib.hid hL
  have HW := Lib.hid hwf
  have hgl := h.lt
  clear h hL hwf
  go_enter Tryz.func23, Tryz.ntmps23
  go_wp2_with fail
  have hg0 : Below w.heap.size w (w.alloc (.cells #[.int .i64 keep, .slice AJ jn jc] 53)) := (Below.refl _ _).alloc (Nat.le_refl _) _
  have c1 : (w.alloc (.cells #[.int .i64 keep, .slice AJ jn jc] 53)).cell? ⟨w.heap.size, 0, none⟩ = some (.int .i64 keep) := by rw [cell_of_row _ _ _ _ _ _ (heap_alloc_new w _)]; rfl
  generalize w.alloc (.cells #[.int .i64 keep, .slice AJ jn jc] 53) = W at *
  have HD := Lib.hid (H.out.below hg0)
  have HG := Lib.hid (grown_of_below hg0 (some g))
  have HL := Lib.hid (HL0.out.below hg0)
  replace hco := (hg0.cell (p := ⟨g, 3, none⟩) hgl).trans hco
  clear hg0 HL0
  refine (none_any HD.out).mono ?_
  rintro e w' ⟨rfl, rfl⟩
  obtain ⟨lft, hlft⟩ : ∃ l, l = d.old := ⟨_, rfl⟩
  rw [← hlft] at hl hco HL
  have hlm : lft.length ≤ d.most := by rw [hlft]; exact HW.out.old
  have HLF := Lib.hid hlft
  clear hlft
  go_wp2_with fail
  refine (clone_lt LA lft.length lc lft _ rfl HL.out (by omega)).mono ?_
  rintro e w4 ⟨v1, b1, rfl, ⟨B1, k1, rfl, hs1⟩, hn1, hb1⟩
  have HS1 : Hid (Sl w4 (.slice B1 lft.length k1) lft b1) := ⟨B1, k1, rfl, hs1⟩
  have HN1 := Lib.hid hn1
  have hD4 := HD.out.below hb1
  have hszW4 := hb1.size
  have HG4 := Lib.hid (nil_grown HG.out (grown_of_below hb1 (some g)))
  have HL4 := Lib.hid (HL.out.below hb1)
  clear hb1 hn1 hs1
  have HD4 := Lib.hid hD4
  clear hD4
  go_wp2_with fail
  refine (clone_lt LA lft.length lc lft _ rfl HL4.out (by omega)).mono ?_
  rintro e w5 ⟨v2, b2, rfl, ⟨B2, k2, rfl, hs2⟩, hn2, hb2⟩
  have HS1' := Lib.hid (HS1.out.below hb2)
  have HS2 : Hid (Sl w5 (.slice B2 lft.length k2) lft b2) := ⟨B2, k2, rfl, hs2⟩
  have HN2 := Lib.hid hn2
  have hszW45 : w4.heap.size ≤ w5.heap.size := hb2.size
  have HG5 := Lib.hid (nil_grown HG4.out (grown_of_below hb2 (some g)))
  have HD5 := Lib.hid (HD4.out.below hb2)
  have hgl5 := HD4.out.lt
  have hgl4 := HD.out.lt
  have hsz45 := HG4.out.size
  have hszW := HG.out.size
  clear hb2 hn2 hs2
  obtain ⟨nv, ov, hrow, -, -⟩ := HD5.out.lies
  have z2 := hrow.cell (show 2 < 9 by omega)
  have z3 := hrow.cell (show 3 < 9 by omega)
  obtain ⟨-, -, z4, z5, z6, z7, -⟩ := HD5.out.c
  have f2 := HD5.out.fz 2
  have f3 := HD5.out.fz 3
  have f4 := HD5.out.fz 4
  have f5 := HD5.out.fz 5
  have f6 := HD5.out.fz 6
  have f7 := HD5.out.fz 7
  have HR5 := Lib.hid hrow
  clear hrow
  go_wp2_with fail
  go_ret
  refine ⟨rfl, ?_⟩
  rw [← HLF.out]
  have n1 : ∀ k, b1 = some k → W.heap.size ≤ k := fun k e => (HN1.out k e).1
  have n2 : ∀ k, b2 = some k → w4.heap.size ≤ k := fun k e => (HN2.out k e).1
  have hW4 : W.heap.size ≤ w4.heap.size := hszW4
  refine ⟨b1, b2, ⟨?_, fun e => by have := n1 _ e; omega, fun e => by have := n2 _ e; omega, fun k e => Nat.lt_of_lt_of_le (HN1.out k e).2 (Nat.le_trans hszW45 (grown_set6 (grown_refl w5 (some g)) _ _ _ _ _ _).size), fun k e => Nat.lt_of_lt_of_le (HN2.out k e).2 (grown_set6 (grown_refl w5 (some g)) _ _ _ _ _ _).size, _, _, ((((((HR5.out.set 2 _).set 3 _).set 4 _).set 5 _).set 6 _).set 7 _).congr fun i hi => ?_, HS1'.out.grown (grown_set6 (grown_refl _ _) _ _ _ _ _ _) (fun k e e2 => by injection e2 with e2; have := n1 k e; omega), HS2.out.grown (grown_set6 (grown_refl _ _) _ _ _ _ _ _) (fun k e e2 => by injection e2 with e2; have := n2 k e; omega)⟩, .inl (.inr fun k e => by have := n1 k e; omega), .inl (.inr fun k e => by have := n2 k e; omega), grown_set6 HG5.out _ _ _ _ _ _⟩
  · obtain ⟨q1, q2, q3, q4, q5, q6, q7⟩ := HW.out
    exact ⟨q1, hlm, hlm, hlm, by show (-1 : Int) ≤ -1; omega, by show (-1 : Int) ≤ _; omega, by show 0 ≤ _; omega⟩
  · match i, hi with
    | 0, _ => rfl
    | 1, _ => rfl
    | 2, _ => rfl
    | 3, _ => rfl
    | 4, _ => rfl
    | 5, _ => rfl
    | 6, _ => rfl
    | 7, _ => rfl
    | 8, _ => rfl
end Go.Proofs.YtlhbijpmhokmnaaGreat
namespace Go.Proofs.YtlhbijpmhokmnaaGreat
open Go.RowKit
set_option linter.unusedSimpArgs false
set_option linter.unusedVariables false


set_option maxRecDepth 100000 in
set_option maxHeartbeats 4000000 in
theorem crash_now {g : Nat} {nb ob : Option Nat} {d : DkS} {w : World} (h : Dk w g nb ob d) (hfl : d.floor ≤ d.now.length) (keep : Int) (hk : 0 ≤ keep) (AJ : Option Addr) (junk : List Nat) (jc : Nat) (hJ : Rd w AJ junk) (hjl : junk.length ≤ 9223372036854775807) :
    Calls Tryz.prog 23 #[.pointer (some ⟨g, 0, none⟩), .agg #[.int .i64 keep, .slice AJ junk.length jc]] w fun e w' => e = .returned (.int .i64 0) ∧ After w g nb ob (crashD d (crLeft d keep junk)) w' := by
  obtain ⟨B, cb, hcn, hb1, hb2, hN, -⟩ := h.nowC
  obtain ⟨Bo, co, hco, -, -, -, -⟩ := h.oldC
  have hcf := h.c.2.2.1
  have hl : d.now.length ≤ 4194304 := by have := h.wf.now; have := h.wf.most; omega
  have hwf := h.wf
  obtain ⟨m, hm⟩ : ∃ m, m = d.floor + (min keep (d.now.length - d.floor : Nat)).toNat := ⟨_, rfl⟩
  have hml : m ≤ d.now.length := by omega
  have hrt : Rd w B (d.now.take m) := by
    refine ⟨fun x hx => hN.1 x (List.mem_of_mem_take hx), fun hne => ?_⟩
    obtain ⟨b, o, rfl, hb, hc⟩ := hN.2 (by intro e; rw [e] at hne; simp at hne)
    refine ⟨b, o, rfl, hb, fun i hi => ?_⟩
    simp only [List.length_take] at hi
    rw [hc i (by omega)]
    simp [nth, List.getElem?_take, show i < m by omega]
  have H := Lib.hid h
  have HT0 := Lib.hid hrt
  have HW := Lib.hid hwf
  have HJ0 := Lib.hid hJ
  have HM := Lib.hid hm
  have hgl := h.lt
  have e1 : IntKind.i64.wrap ((d.now.length : Int) - d.floor) = d.now.length - d.floor := by simp [IntKind.wrap, IntKind.signed, IntKind.bits]; omega
  have hM : (if (d.now.length : Int) - d.floor < keep then (d.now.length : Int) - d.floor else keep) = (m : Int) - d.floor := by
    split <;> omega
  have e2 : IntKind.i64.wrap ((d.floor : Int) + ((m : Int) - d.floor)) = m := by simp [IntKind.wrap, IntKind.signed, IntKind.bits]; omega
  have k1 : (m : Int) ≤ cb := by omega
  have k2 : m ≤ cb := by omega
  clear h hN hwf hrt hJ hm
  go_enter Tryz.func23, Tryz.ntmps23
  go_wp2_with fail
  have hg0 : Below w.heap.size w (w.alloc (.cells #[.int .i64 keep, .slice AJ junk.length jc] 53)) := (Below.refl _ _).alloc (Nat.le_refl _) _
  have c1 : (w.alloc (.cells #[.int .i64 keep, .slice AJ junk.length jc] 53)).cell? ⟨w.heap.size, 0, none⟩ = some (.int .i64 keep) := by rw [cell_of_row _ _ _ _ _ _ (heap_alloc_new w _)]; rfl
  have c2 : (w.alloc (.cells #[.int .i64 keep, .slice AJ junk.length jc] 53)).cell? ⟨w.heap.size, 1, none⟩ = some (.slice AJ junk.length jc) := by rw [cell_of_row _ _ _ _ _ _ (heap_alloc_new w _)]; rfl
  have hzW : w.heap.size < (w.alloc (.cells #[.int .i64 keep, .slice AJ junk.length jc] 53)).heap.size := by simp
  generalize w.alloc (.cells #[.int .i64 keep, .slice AJ junk.length jc] 53) = W at *
  have HD := Lib.hid (H.out.below hg0)
  have HG := Lib.hid (grown_of_below hg0 (some g))
  have HT := Lib.hid (HT0.out.below hg0)
  have HJ := Lib.hid (HJ0.out.below hg0)
  replace hcn := (hg0.cell (p := ⟨g, 2, none⟩) hgl).trans hcn
  replace hco := (hg0.cell (p := ⟨g, 3, none⟩) hgl).trans hco
  replace hcf := (hg0.cell (p := ⟨g, 4, none⟩) hgl).trans hcf
  have C2 := Lib.hid c2
  have CF := Lib.hid hcf
  clear hg0
  refine (none_any HD.out).mono ?_
  rintro e w' ⟨rfl, rfl⟩
  go_wp2_with fail
  refine wp_region_still_tail 23 (by kernel_rfl) (by kernel_rfl) ?_
  simp only [List.take_succ_cons, List.take_zero, List.drop_succ_cons, List.drop_zero]
  repeat still_step
  try refine wpStill_nil ?_
  change wpList _ _ _ _ _ W.drew
  go_wp2_with fail
  refine (clone_ow B m cb (d.now.take m) _ (by simp; omega) HT.out.drew (by simp; omega)).mono ?_
  rintro e w5 ⟨v5, rfl, ho5, hb5⟩
  obtain ⟨base, hbase⟩ : ∃ b, b = d.now.take m := ⟨_, rfl⟩
  have hblen : base.length = m := by rw [hbase]; simp; omega
  rw [← hbase] at ho5
  obtain ⟨A5, c5, hv5, hc5, -, -⟩ := ho5.form
  rw [hblen] at hv5 hc5
  have HO := Lib.hid ho5
  have HBs := Lib.hid hbase
  have HBl := Lib.hid hblen
  have HB5 : Hid (Below W.heap.size W w5) := (below_drewN' (Below.refl _ _) 1).trans hb5
  clear ho5 hbase hblen hb5
  rw [hv5]
  replace hcf := (HB5.out.cell (p := ⟨g, 4, none⟩) (Nat.lt_of_lt_of_le hgl (Nat.le_of_lt hzW))).trans hcf
  have c2' := (HB5.out.cell (p := ⟨w.heap.size, 1, none⟩) hzW).trans C2.out
  clear c1 c2 hcn hco
  have HV5 := Lib.hid hv5
  clear hv5
  obtain ⟨K, hK⟩ : ∃ K, K = (m - 1) / 512 * 512 := ⟨_, rfl⟩
  have eK : wrap64 (((m : Int) - 1).tdiv 512 * 512) = (K : Int) := by
    have e : ((m : Int) - 1).tdiv 512 = (((m - 1) / 512 : Nat) : Int) := by
      rcases Nat.eq_zero_or_pos m with h0 | h0
      · rw [h0]; rfl
      · rw [Int.tdiv_eq_ediv_of_nonneg (by omega)]; omega
    rw [e, hK]
    rw [IntWalk.wrap64_in _ (by omega)]
    omega
  have hFm : crFrom d.floor m = max d.floor K := by unfold crFrom; rw [hK]
  have HFm := Lib.hid hFm
  have HKm : Hid (K ≤ m) := by show K ≤ m; omega
  clear hK hFm
  have hcr : (junk = [] → crLeft d keep junk = base) ∧ (junk ≠ [] → crLeft d keep junk = jk (max d.floor K) junk base m) := by
    unfold crLeft
    rw [if_neg (by omega), ← HM.out, ← HBs.out, HBl.out, ← HFm.out]
    exact ⟨fun h => if_pos h, fun h => if_neg h⟩
  have HCR := Lib.hid hcr
  clear hcr
  by_cases hfK : d.floor < K
  · have k3 : (d.floor : Int) < K := by omega
    have HFF : Hid (max d.floor K = K) := by show _ = _; omega
    rw [HFF.out] at HCR
    have HFle : Hid (K ≤ m) := by show K ≤ m; have := HKm.out; have := HM.out; omega
    clear HFF
    have hm4 : m ≤ 4194304 := by omega
    have hsz5 := HB5.out.size
    have hd5 : Dk w5 g nb ob d := HD.out.below HB5.out
    have hg5 : w.grownBy w5 (some g) := nil_grown HG.out (grown_of_below HB5.out _)
    have HD5 := Lib.hid hd5
    have HG5 := Lib.hid hg5
    clear hd5 hg5
    by_cases hj : junk = []
    · have hj0 : ¬ (0 : Int) < junk.length := by rw [hj]; simp
      have hleft := HCR.out.1 hj
      obtain ⟨lft, hlft⟩ : ∃ l, l = base := ⟨_, rfl⟩
      have hlm : lft.length ≤ d.most := by rw [hlft, HBl.out]; have := HW.out.now; omega
      have hl : lft.length ≤ 5000000 := by rw [hlft, HBl.out]; omega
      have hlen : m = lft.length := by rw [hlft, HBl.out]
      have HL : Hid (Rd w5 A5 lft) := by
        obtain ⟨A', c', e, -, -, hr⟩ := HO.out.form
        rw [HV5.out] at e
        injection e with e1 e2 e3
        subst e1
        rw [hlft]; exact hr
      have HLE := Lib.hid (hleft.trans hlft.symm)
      clear hlft hleft hj
      subst hlen
      have HD := HD5
      have HG := HG5
      go_wp2_with fail
      go_loopw [7] (fun i wr => i = .int .i64 (K : Nat) ∧ wr = w5) (fun _ _ => 0)
      case atStart => exact ⟨rfl, rfl⟩
      case round =>
        obtain ⟨rfl, rfl⟩ := hrel
        have hdec : ((K : Nat) : Int) < (lft.length : Int) ∨ ¬ ((K : Nat) : Int) < (lft.length : Int) := by omega
        rcases hdec with hdec | hdec
        all_goals
          go_wp2_with fail
          refine (clone_lt A5 lft.length c5 lft _ rfl HL.out (by omega)).mono ?_
          rintro e w4 ⟨v1, b1, rfl, ⟨B1, k1, rfl, hs1⟩, hn1, hb1⟩
          have HS1 : Hid (Sl w4 (.slice B1 lft.length k1) lft b1) := ⟨B1, k1, rfl, hs1⟩
          have HN1 := Lib.hid hn1
          have hD4 := HD.out.below hb1
          have hszW4 := hb1.size
          have HG4 := Lib.hid (nil_grown HG.out (grown_of_below hb1 (some g)))
          have HL4 := Lib.hid (HL.out.below hb1)
          clear hb1 hn1 hs1
          have HD4 := Lib.hid hD4
          clear hD4
          go_wp2_with fail
          refine (clone_lt A5 lft.length c5 lft _ rfl HL4.out (by omega)).mono ?_
          rintro e w5 ⟨v2, b2, rfl, ⟨B2, k2, rfl, hs2⟩, hn2, hb2⟩
          have HS1' := Lib.hid (HS1.out.below hb2)
          have HS2 : Hid (Sl w5 (.slice B2 lft.length k2) lft b2) := ⟨B2, k2, rfl, hs2⟩
          have HN2 := Lib.hid hn2
          have hszW45 : w4.heap.size ≤ w5.heap.size := hb2.size
          have HG5 := Lib.hid (nil_grown HG4.out (grown_of_below hb2 (some g)))
          have HD5 := Lib.hid (HD4.out.below hb2)
          have hgl5 := HD4.out.lt
          have hgl4 := HD.out.lt
          have hsz45 := HG4.out.size
          have hszW := HG.out.size
          clear hb2 hn2 hs2
          obtain ⟨nv, ov, hrow, -, -⟩ := HD5.out.lies
          have z2 := hrow.cell (show 2 < 9 by omega)
          have z3 := hrow.cell (show 3 < 9 by omega)
          obtain ⟨-, -, z4, z5, z6, z7, -⟩ := HD5.out.c
          have f2 := HD5.out.fz 2
          have f3 := HD5.out.fz 3
          have f4 := HD5.out.fz 4
          have f5 := HD5.out.fz 5
          have f6 := HD5.out.fz 6
          have f7 := HD5.out.fz 7
          have HR5 := Lib.hid hrow
          clear hrow
          go_wp2_with fail
          go_ret
          refine ⟨rfl, ?_⟩
          rw [HLE.out]
          have n1 : ∀ k, b1 = some k → wr.heap.size ≤ k := fun k e => (HN1.out k e).1
          have n2 : ∀ k, b2 = some k → w4.heap.size ≤ k := fun k e => (HN2.out k e).1
          have hW4 : wr.heap.size ≤ w4.heap.size := hszW4
          refine ⟨b1, b2, ⟨?_, fun e => by have := n1 _ e; omega, fun e => by have := n2 _ e; omega, fun k e => Nat.lt_of_lt_of_le (HN1.out k e).2 (Nat.le_trans hszW45 (grown_set6 (grown_refl w5 (some g)) _ _ _ _ _ _).size), fun k e => Nat.lt_of_lt_of_le (HN2.out k e).2 (grown_set6 (grown_refl w5 (some g)) _ _ _ _ _ _).size, _, _, ((((((HR5.out.set 2 _).set 3 _).set 4 _).set 5 _).set 6 _).set 7 _).congr fun i hi => ?_, HS1'.out.grown (grown_set6 (grown_refl _ _) _ _ _ _ _ _) (fun k e e2 => by injection e2 with e2; have := n1 k e; omega), HS2.out.grown (grown_set6 (grown_refl _ _) _ _ _ _ _ _) (fun k e e2 => by injection e2 with e2; have := n2 k e; omega)⟩, .inl (.inr fun k e => by have := n1 k e; omega), .inl (.inr fun k e => by have := n2 k e; omega), grown_set6 HG5.out _ _ _ _ _ _⟩
          · obtain ⟨q1, q2, q3, q4, q5, q6, q7⟩ := HW.out
            exact ⟨q1, hlm, hlm, hlm, by show (-1 : Int) ≤ -1; omega, by show (-1 : Int) ≤ _; omega, by show 0 ≤ _; omega⟩
          · match i, hi with
            | 0, _ => rfl
            | 1, _ => rfl
            | 2, _ => rfl
            | 3, _ => rfl
            | 4, _ => rfl
            | 5, _ => rfl
            | 6, _ => rfl
            | 7, _ => rfl
            | 8, _ => rfl
    · have hj0 : (0 : Int) < junk.length := by have := List.length_pos_iff.2 hj; omega
      have hj1 : 0 < junk.length := List.length_pos_iff.2 hj
      have hleft := HCR.out.2 hj
      obtain ⟨gj, oj, hAJ, hgj, hcj⟩ := HJ.out.2 hj
      have HCJ := Lib.hid hcj
      have hob : Ow w5 W.heap.size (.slice A5 m c5) base := by have := HO.out; rw [HV5.out] at this; exact this
      have hbl : ∀ x ∈ base, x < 256 := hob.1
      have HOB := Lib.hid hob
      have HLE := Lib.hid hleft
      have HHJ := Lib.hid hj
      have HJL := Lib.hid HJ.out.1
      clear hcj hob hleft hj
      subst hAJ
      go_wp2_with fail
      go_loopw [7] (fun i wr => ∃ q : Nat, i = .int .i64 q ∧ K ≤ q ∧ q ≤ m ∧ Ow wr W.heap.size (.slice A5 m c5) (jk K junk base q) ∧ Below W.heap.size W wr) (fun i _ => m - (intOf i).toNat)
      case atStart => exact ⟨K, rfl, Nat.le_refl _, HFle.out, by rw [jk_zero _ _ _ (Nat.le_refl _)]; exact HOB.out, HB5.out⟩
      case round =>
        obtain ⟨q, rfl, hq1, hq2, ho, hb⟩ := hrel
        by_cases hqm : q < m
        · have k5 : (q : Int) < m := by omega
          have hlen : (jk K junk base q).length = m := by rw [jk_length, HBl.out]
          obtain ⟨g5, c5', e5, -, hg5, hg5l, hcell, hfr⟩ := ho.form0 (by intro e; rw [e] at hlen; simp at hlen; omega)
          injection e5 with e5 e6 e7
          subst e5
          clear e6 e7
          have x1 : wr.cell? ⟨g5, q, none⟩ = some (.int .u8 (nth (jk K junk base q) q : Nat)) := hcell q (by rw [hlen]; exact hqm)
          have x2 := hfr q
          have x3 := (hb.cell (p := ⟨w.heap.size, 1, none⟩) hzW).trans C2.out
          have hr : (q - K) % junk.length < junk.length := Nat.mod_lt _ hj1
          have x4 : wr.cell? ⟨gj, oj + (q - K) % junk.length, none⟩ = some (.int .u8 (nth junk ((q - K) % junk.length) : Nat)) := (hb.cell (p := ⟨gj, _, none⟩) hgj).trans (HCJ.out _ hr)
          have y1 : IntKind.i64.wrap ((q : Int) - (K : Nat)) = q - (K : Nat) := by simp [IntKind.wrap, IntKind.signed, IntKind.bits]; omega
          have y2 : ((q : Int) - (K : Nat)).tmod (junk.length : Int) = (((q - K) % junk.length : Nat) : Int) := by
            rw [Int.tmod_eq_emod_of_nonneg (by omega), show (q : Int) - (K : Nat) = ((q - K : Nat) : Int) by omega, ← Int.natCast_emod]
          have y3 : ((((q - K) % junk.length : Nat) : Int)) < junk.length := Int.ofNat_lt.2 hr
          have hjz := HHJ.out
          have hjz2 : ((junk.length : Int) == 0) = false := by rw [beq_eq_false_iff_ne]; omega
          have hx256 := nth_lt HJL.out ((q - K) % junk.length)
          have HO1 := Lib.hid ho
          have HB1 := Lib.hid hb
          have HLN := Lib.hid hlen
          generalize hxx : nth junk ((q - K) % junk.length) = x at *
          have HXX := Lib.hid hxx
          generalize hrr : (q - K) % junk.length = r at *
          have HRR := Lib.hid hrr
          clear hrr
          clear ho hb hcell hfr hlen hxx
          go_wp2_with fail
          refine wp_region_still_tail 14 (by kernel_rfl) (by kernel_rfl) ?_
          simp only [List.take_succ_cons, List.take_zero, List.drop_succ_cons, List.drop_zero]
          repeat still_step
          try refine wpStill_nil ?_
          change wpList _ _ _ _ _ wr.drew
          go_wp2_with fail
          have hq9 : IntKind.i64.wrap ((q : Int) + 1) = q + 1 := by simp [IntKind.wrap, IntKind.signed, IntKind.bits]; omega
          have HOx := Lib.hid (HO1.out.drew.set (i := q) (by rw [HLN.out]; exact hqm) hx256)
          have HBx := Lib.hid (HB1.out.drew.setCell (p := ⟨g5, q, none⟩) (by show W.heap.size ≤ g5; exact hg5) (.int .u8 (x : Nat)))
          go_roundw
          case rel =>
            have hjk : Ow (wr.drew.setCell ⟨g5, q, none⟩ (.int .u8 (x : Nat))) W.heap.size (.slice (some ⟨g5, 0, none⟩) m c5) (jk K junk base (q + 1)) := by
              rw [jk_step _ _ _ hq1 (by rw [HBl.out]; exact hqm), HRR.out, HXX.out]
              exact HOx.out
            first
              | exact ⟨q + 1, by go_num, by omega, by omega, hjk, HBx.out⟩
              | (rw [eK]; (repeat apply Exists.intro); refine ⟨⟨q + 1, ?_, by omega, by omega, hjk, HBx.out⟩, rfl⟩; go_num)
          case measure => simp [intOf]; omega
        · obtain rfl : q = m := by omega
          obtain ⟨lft, hlft⟩ : ∃ l, l = jk K junk base q := ⟨_, rfl⟩
          have hlen : q = lft.length := by rw [hlft, jk_length, HBl.out]
          have hlm : lft.length ≤ d.most := by rw [← hlen]; have := HW.out.now; omega
          have hl : lft.length ≤ 5000000 := by rw [← hlen]; omega
          have HL : Hid (Rd wr A5 lft) := by
            obtain ⟨A', c', e, -, -, hr⟩ := ho.form
            injection e with e1 e2 e3
            subst e1
            rw [hlft]; exact hr
          have HD : Hid (Dk wr g nb ob d) := HD.out.below hb
          have HG : Hid (w.grownBy wr (some g)) := nil_grown HG.out (grown_of_below hb _)
          replace HLE := Lib.hid (HLE.out.trans hlft.symm)
          clear ho hb hlft
          subst hlen
          have k5 : ¬ (lft.length : Int) < (lft.length : Int) := by omega
          go_wp2_with fail
          refine (clone_lt A5 lft.length c5 lft _ rfl HL.out (by omega)).mono ?_
          rintro e w4 ⟨v1, b1, rfl, ⟨B1, k1, rfl, hs1⟩, hn1, hb1⟩
          have HS1 : Hid (Sl w4 (.slice B1 lft.length k1) lft b1) := ⟨B1, k1, rfl, hs1⟩
          have HN1 := Lib.hid hn1
          have hD4 := HD.out.below hb1
          have hszW4 := hb1.size
          have HG4 := Lib.hid (nil_grown HG.out (grown_of_below hb1 (some g)))
          have HL4 := Lib.hid (HL.out.below hb1)
          clear hb1 hn1 hs1
          have HD4 := Lib.hid hD4
          clear hD4
          go_wp2_with fail
          refine (clone_lt A5 lft.length c5 lft _ rfl HL4.out (by omega)).mono ?_
          rintro e w5 ⟨v2, b2, rfl, ⟨B2, k2, rfl, hs2⟩, hn2, hb2⟩
          have HS1' := Lib.hid (HS1.out.below hb2)
          have HS2 : Hid (Sl w5 (.slice B2 lft.length k2) lft b2) := ⟨B2, k2, rfl, hs2⟩
          have HN2 := Lib.hid hn2
          have hszW45 : w4.heap.size ≤ w5.heap.size := hb2.size
          have HG5 := Lib.hid (nil_grown HG4.out (grown_of_below hb2 (some g)))
          have HD5 := Lib.hid (HD4.out.below hb2)
          have hgl5 := HD4.out.lt
          have hgl4 := HD.out.lt
          have hsz45 := HG4.out.size
          have hszW := HG.out.size
          clear hb2 hn2 hs2
          obtain ⟨nv, ov, hrow, -, -⟩ := HD5.out.lies
          have z2 := hrow.cell (show 2 < 9 by omega)
          have z3 := hrow.cell (show 3 < 9 by omega)
          obtain ⟨-, -, z4, z5, z6, z7, -⟩ := HD5.out.c
          have f2 := HD5.out.fz 2
          have f3 := HD5.out.fz 3
          have f4 := HD5.out.fz 4
          have f5 := HD5.out.fz 5
          have f6 := HD5.out.fz 6
          have f7 := HD5.out.fz 7
          have HR5 := Lib.hid hrow
          clear hrow
          go_wp2_with fail
          go_ret
          refine ⟨rfl, ?_⟩
          rw [HLE.out]
          have n1 : ∀ k, b1 = some k → wr.heap.size ≤ k := fun k e => (HN1.out k e).1
          have n2 : ∀ k, b2 = some k → w4.heap.size ≤ k := fun k e => (HN2.out k e).1
          have hW4 : wr.heap.size ≤ w4.heap.size := hszW4
          refine ⟨b1, b2, ⟨?_, fun e => by have := n1 _ e; omega, fun e => by have := n2 _ e; omega, fun k e => Nat.lt_of_lt_of_le (HN1.out k e).2 (Nat.le_trans hszW45 (grown_set6 (grown_refl w5 (some g)) _ _ _ _ _ _).size), fun k e => Nat.lt_of_lt_of_le (HN2.out k e).2 (grown_set6 (grown_refl w5 (some g)) _ _ _ _ _ _).size, _, _, ((((((HR5.out.set 2 _).set 3 _).set 4 _).set 5 _).set 6 _).set 7 _).congr fun i hi => ?_, HS1'.out.grown (grown_set6 (grown_refl _ _) _ _ _ _ _ _) (fun k e e2 => by injection e2 with e2; have := n1 k e; omega), HS2.out.grown (grown_set6 (grown_refl _ _) _ _ _ _ _ _) (fun k e e2 => by injection e2 with e2; have := n2 k e; omega)⟩, .inl (.inr fun k e => by have := n1 k e; omega), .inl (.inr fun k e => by have := n2 k e; omega), grown_set6 HG5.out _ _ _ _ _ _⟩
          · obtain ⟨q1, q2, q3, q4, q5, q6, q7⟩ := HW.out
            exact ⟨q1, hlm, hlm, hlm, by show (-1 : Int) ≤ -1; omega, by show (-1 : Int) ≤ _; omega, by show 0 ≤ _; omega⟩
          · match i, hi with
            | 0, _ => rfl
            | 1, _ => rfl
            | 2, _ => rfl
            | 3, _ => rfl
            | 4, _ => rfl
            | 5, _ => rfl
            | 6, _ => rfl
            | 7, _ => rfl
            | 8, _ => rfl
  · have k3 : ¬ (d.floor : Int) < K := by omega
    have HFF : Hid (max d.floor K = d.floor) := by show _ = _; omega
    rw [HFF.out] at HCR
    have HFle : Hid (d.floor ≤ m) := by show d.floor ≤ m; have := HKm.out; have := HM.out; omega
    clear HFF
    have hm4 : m ≤ 4194304 := by omega
    have hsz5 := HB5.out.size
    have hd5 : Dk w5 g nb ob d := HD.out.below HB5.out
    have hg5 : w.grownBy w5 (some g) := nil_grown HG.out (grown_of_below HB5.out _)
    have HD5 := Lib.hid hd5
    have HG5 := Lib.hid hg5
    clear hd5 hg5
    by_cases hj : junk = []
    · have hj0 : ¬ (0 : Int) < junk.length := by rw [hj]; simp
      have hleft := HCR.out.1 hj
      obtain ⟨lft, hlft⟩ : ∃ l, l = base := ⟨_, rfl⟩
      have hlm : lft.length ≤ d.most := by rw [hlft, HBl.out]; have := HW.out.now; omega
      have hl : lft.length ≤ 5000000 := by rw [hlft, HBl.out]; omega
      have hlen : m = lft.length := by rw [hlft, HBl.out]
      have HL : Hid (Rd w5 A5 lft) := by
        obtain ⟨A', c', e, -, -, hr⟩ := HO.out.form
        rw [HV5.out] at e
        injection e with e1 e2 e3
        subst e1
        rw [hlft]; exact hr
      have HLE := Lib.hid (hleft.trans hlft.symm)
      clear hlft hleft hj
      subst hlen
      have HD := HD5
      have HG := HG5
      go_wp2_with fail
      go_loopw [7] (fun i wr => i = .int .i64 (d.floor : Nat) ∧ wr = w5) (fun _ _ => 0)
      case atStart => exact ⟨rfl, rfl⟩
      case round =>
        obtain ⟨rfl, rfl⟩ := hrel
        have hdec : ((d.floor : Nat) : Int) < (lft.length : Int) ∨ ¬ ((d.floor : Nat) : Int) < (lft.length : Int) := by omega
        rcases hdec with hdec | hdec
        all_goals
          go_wp2_with fail
          refine (clone_lt A5 lft.length c5 lft _ rfl HL.out (by omega)).mono ?_
          rintro e w4 ⟨v1, b1, rfl, ⟨B1, k1, rfl, hs1⟩, hn1, hb1⟩
          have HS1 : Hid (Sl w4 (.slice B1 lft.length k1) lft b1) := ⟨B1, k1, rfl, hs1⟩
          have HN1 := Lib.hid hn1
          have hD4 := HD.out.below hb1
          have hszW4 := hb1.size
          have HG4 := Lib.hid (nil_grown HG.out (grown_of_below hb1 (some g)))
          have HL4 := Lib.hid (HL.out.below hb1)
          clear hb1 hn1 hs1
          have HD4 := Lib.hid hD4
          clear hD4
          go_wp2_with fail
          refine (clone_lt A5 lft.length c5 lft _ rfl HL4.out (by omega)).mono ?_
          rintro e w5 ⟨v2, b2, rfl, ⟨B2, k2, rfl, hs2⟩, hn2, hb2⟩
          have HS1' := Lib.hid (HS1.out.below hb2)
          have HS2 : Hid (Sl w5 (.slice B2 lft.length k2) lft b2) := ⟨B2, k2, rfl, hs2⟩
          have HN2 := Lib.hid hn2
          have hszW45 : w4.heap.size ≤ w5.heap.size := hb2.size
          have HG5 := Lib.hid (nil_grown HG4.out (grown_of_below hb2 (some g)))
          have HD5 := Lib.hid (HD4.out.below hb2)
          have hgl5 := HD4.out.lt
          have hgl4 := HD.out.lt
          have hsz45 := HG4.out.size
          have hszW := HG.out.size
          clear hb2 hn2 hs2
          obtain ⟨nv, ov, hrow, -, -⟩ := HD5.out.lies
          have z2 := hrow.cell (show 2 < 9 by omega)
          have z3 := hrow.cell (show 3 < 9 by omega)
          obtain ⟨-, -, z4, z5, z6, z7, -⟩ := HD5.out.c
          have f2 := HD5.out.fz 2
          have f3 := HD5.out.fz 3
          have f4 := HD5.out.fz 4
          have f5 := HD5.out.fz 5
          have f6 := HD5.out.fz 6
          have f7 := HD5.out.fz 7
          have HR5 := Lib.hid hrow
          clear hrow
          go_wp2_with fail
          go_ret
          refine ⟨rfl, ?_⟩
          rw [HLE.out]
          have n1 : ∀ k, b1 = some k → wr.heap.size ≤ k := fun k e => (HN1.out k e).1
          have n2 : ∀ k, b2 = some k → w4.heap.size ≤ k := fun k e => (HN2.out k e).1
          have hW4 : wr.heap.size ≤ w4.heap.size := hszW4
          refine ⟨b1, b2, ⟨?_, fun e => by have := n1 _ e; omega, fun e => by have := n2 _ e; omega, fun k e => Nat.lt_of_lt_of_le (HN1.out k e).2 (Nat.le_trans hszW45 (grown_set6 (grown_refl w5 (some g)) _ _ _ _ _ _).size), fun k e => Nat.lt_of_lt_of_le (HN2.out k e).2 (grown_set6 (grown_refl w5 (some g)) _ _ _ _ _ _).size, _, _, ((((((HR5.out.set 2 _).set 3 _).set 4 _).set 5 _).set 6 _).set 7 _).congr fun i hi => ?_, HS1'.out.grown (grown_set6 (grown_refl _ _) _ _ _ _ _ _) (fun k e e2 => by injection e2 with e2; have := n1 k e; omega), HS2.out.grown (grown_set6 (grown_refl _ _) _ _ _ _ _ _) (fun k e e2 => by injection e2 with e2; have := n2 k e; omega)⟩, .inl (.inr fun k e => by have := n1 k e; omega), .inl (.inr fun k e => by have := n2 k e; omega), grown_set6 HG5.out _ _ _ _ _ _⟩
          · obtain ⟨q1, q2, q3, q4, q5, q6, q7⟩ := HW.out
            exact ⟨q1, hlm, hlm, hlm, by show (-1 : Int) ≤ -1; omega, by show (-1 : Int) ≤ _; omega, by show 0 ≤ _; omega⟩
          · match i, hi with
            | 0, _ => rfl
            | 1, _ => rfl
            | 2, _ => rfl
            | 3, _ => rfl
            | 4, _ => rfl
            | 5, _ => rfl
            | 6, _ => rfl
            | 7, _ => rfl
            | 8, _ => rfl
    · have hj0 : (0 : Int) < junk.length := by have := List.length_pos_iff.2 hj; omega
      have hj1 : 0 < junk.length := List.length_pos_iff.2 hj
      have hleft := HCR.out.2 hj
      obtain ⟨gj, oj, hAJ, hgj, hcj⟩ := HJ.out.2 hj
      have HCJ := Lib.hid hcj
      have hob : Ow w5 W.heap.size (.slice A5 m c5) base := by have := HO.out; rw [HV5.out] at this; exact this
      have hbl : ∀ x ∈ base, x < 256 := hob.1
      have HOB := Lib.hid hob
      have HLE := Lib.hid hleft
      have HHJ := Lib.hid hj
      have HJL := Lib.hid HJ.out.1
      clear hcj hob hleft hj
      subst hAJ
      go_wp2_with fail
      go_loopw [7] (fun i wr => ∃ q : Nat, i = .int .i64 q ∧ d.floor ≤ q ∧ q ≤ m ∧ Ow wr W.heap.size (.slice A5 m c5) (jk d.floor junk base q) ∧ Below W.heap.size W wr) (fun i _ => m - (intOf i).toNat)
      case atStart => exact ⟨d.floor, rfl, Nat.le_refl _, HFle.out, by rw [jk_zero _ _ _ (Nat.le_refl _)]; exact HOB.out, HB5.out⟩
      case round =>
        obtain ⟨q, rfl, hq1, hq2, ho, hb⟩ := hrel
        by_cases hqm : q < m
        · have k5 : (q : Int) < m := by omega
          have hlen : (jk d.floor junk base q).length = m := by rw [jk_length, HBl.out]
          obtain ⟨g5, c5', e5, -, hg5, hg5l, hcell, hfr⟩ := ho.form0 (by intro e; rw [e] at hlen; simp at hlen; omega)
          injection e5 with e5 e6 e7
          subst e5
          clear e6 e7
          have x1 : wr.cell? ⟨g5, q, none⟩ = some (.int .u8 (nth (jk d.floor junk base q) q : Nat)) := hcell q (by rw [hlen]; exact hqm)
          have x2 := hfr q
          have x3 := (hb.cell (p := ⟨w.heap.size, 1, none⟩) hzW).trans C2.out
          have hr : (q - d.floor) % junk.length < junk.length := Nat.mod_lt _ hj1
          have x4 : wr.cell? ⟨gj, oj + (q - d.floor) % junk.length, none⟩ = some (.int .u8 (nth junk ((q - d.floor) % junk.length) : Nat)) := (hb.cell (p := ⟨gj, _, none⟩) hgj).trans (HCJ.out _ hr)
          have y1 : IntKind.i64.wrap ((q : Int) - (d.floor : Nat)) = q - (d.floor : Nat) := by simp [IntKind.wrap, IntKind.signed, IntKind.bits]; omega
          have y2 : ((q : Int) - (d.floor : Nat)).tmod (junk.length : Int) = (((q - d.floor) % junk.length : Nat) : Int) := by
            rw [Int.tmod_eq_emod_of_nonneg (by omega), show (q : Int) - (d.floor : Nat) = ((q - d.floor : Nat) : Int) by omega, ← Int.natCast_emod]
          have y3 : ((((q - d.floor) % junk.length : Nat) : Int)) < junk.length := Int.ofNat_lt.2 hr
          have hjz := HHJ.out
          have hjz2 : ((junk.length : Int) == 0) = false := by rw [beq_eq_false_iff_ne]; omega
          have hx256 := nth_lt HJL.out ((q - d.floor) % junk.length)
          have HO1 := Lib.hid ho
          have HB1 := Lib.hid hb
          have HLN := Lib.hid hlen
          generalize hxx : nth junk ((q - d.floor) % junk.length) = x at *
          have HXX := Lib.hid hxx
          generalize hrr : (q - d.floor) % junk.length = r at *
          have HRR := Lib.hid hrr
          clear hrr
          clear ho hb hcell hfr hlen hxx
          go_wp2_with fail
          refine wp_region_still_tail 14 (by kernel_rfl) (by kernel_rfl) ?_
          simp only [List.take_succ_cons, List.take_zero, List.drop_succ_cons, List.drop_zero]
          repeat still_step
          try refine wpStill_nil ?_
          change wpList _ _ _ _ _ wr.drew
          go_wp2_with fail
          have hq9 : IntKind.i64.wrap ((q : Int) + 1) = q + 1 := by simp [IntKind.wrap, IntKind.signed, IntKind.bits]; omega
          have HOx := Lib.hid (HO1.out.drew.set (i := q) (by rw [HLN.out]; exact hqm) hx256)
          have HBx := Lib.hid (HB1.out.drew.setCell (p := ⟨g5, q, none⟩) (by show W.heap.size ≤ g5; exact hg5) (.int .u8 (x : Nat)))
          go_roundw
          case rel =>
            have hjk : Ow (wr.drew.setCell ⟨g5, q, none⟩ (.int .u8 (x : Nat))) W.heap.size (.slice (some ⟨g5, 0, none⟩) m c5) (jk d.floor junk base (q + 1)) := by
              rw [jk_step _ _ _ hq1 (by rw [HBl.out]; exact hqm), HRR.out, HXX.out]
              exact HOx.out
            first
              | exact ⟨q + 1, by go_num, by omega, by omega, hjk, HBx.out⟩
              | (rw [eK]; (repeat apply Exists.intro); refine ⟨⟨q + 1, ?_, by omega, by omega, hjk, HBx.out⟩, rfl⟩; go_num)
          case measure => simp [intOf]; omega
        · obtain rfl : q = m := by omega
          obtain ⟨lft, hlft⟩ : ∃ l, l = jk d.floor junk base q := ⟨_, rfl⟩
          have hlen : q = lft.length := by rw [hlft, jk_length, HBl.out]
          have hlm : lft.length ≤ d.most := by rw [← hlen]; have := HW.out.now; omega
          have hl : lft.length ≤ 5000000 := by rw [← hlen]; omega
          have HL : Hid (Rd wr A5 lft) := by
            obtain ⟨A', c', e, -, -, hr⟩ := ho.form
            injection e with e1 e2 e3
            subst e1
            rw [hlft]; exact hr
          have HD : Hid (Dk wr g nb ob d) := HD.out.below hb
          have HG : Hid (w.grownBy wr (some g)) := nil_grown HG.out (grown_of_below hb _)
          replace HLE := Lib.hid (HLE.out.trans hlft.symm)
          clear ho hb hlft
          subst hlen
          have k5 : ¬ (lft.length : Int) < (lft.length : Int) := by omega
          go_wp2_with fail
          refine (clone_lt A5 lft.length c5 lft _ rfl HL.out (by omega)).mono ?_
          rintro e w4 ⟨v1, b1, rfl, ⟨B1, k1, rfl, hs1⟩, hn1, hb1⟩
          have HS1 : Hid (Sl w4 (.slice B1 lft.length k1) lft b1) := ⟨B1, k1, rfl, hs1⟩
          have HN1 := Lib.hid hn1
          have hD4 := HD.out.below hb1
          have hszW4 := hb1.size
          have HG4 := Lib.hid (nil_grown HG.out (grown_of_below hb1 (some g)))
          have HL4 := Lib.hid (HL.out.below hb1)
          clear hb1 hn1 hs1
          have HD4 := Lib.hid hD4
          clear hD4
          go_wp2_with fail
          refine (clone_lt A5 lft.length c5 lft _ rfl HL4.out (by omega)).mono ?_
          rintro e w5 ⟨v2, b2, rfl, ⟨B2, k2, rfl, hs2⟩, hn2, hb2⟩
          have HS1' := Lib.hid (HS1.out.below hb2)
          have HS2 : Hid (Sl w5 (.slice B2 lft.length k2) lft b2) := ⟨B2, k2, rfl, hs2⟩
          have HN2 := Lib.hid hn2
          have hszW45 : w4.heap.size ≤ w5.heap.size := hb2.size
          have HG5 := Lib.hid (nil_grown HG4.out (grown_of_below hb2 (some g)))
          have HD5 := Lib.hid (HD4.out.below hb2)
          have hgl5 := HD4.out.lt
          have hgl4 := HD.out.lt
          have hsz45 := HG4.out.size
          have hszW := HG.out.size
          clear hb2 hn2 hs2
          obtain ⟨nv, ov, hrow, -, -⟩ := HD5.out.lies
          have z2 := hrow.cell (show 2 < 9 by omega)
          have z3 := hrow.cell (show 3 < 9 by omega)
          obtain ⟨-, -, z4, z5, z6, z7, -⟩ := HD5.out.c
          have f2 := HD5.out.fz 2
          have f3 := HD5.out.fz 3
          have f4 := HD5.out.fz 4
          have f5 := HD5.out.fz 5
          have f6 := HD5.out.fz 6
          have f7 := HD5.out.fz 7
          have HR5 := Lib.hid hrow
          clear hrow
          go_wp2_with fail
          go_ret
          refine ⟨rfl, ?_⟩
          rw [HLE.out]
          have n1 : ∀ k, b1 = some k → wr.heap.size ≤ k := fun k e => (HN1.out k e).1
          have n2 : ∀ k, b2 = some k → w4.heap.size ≤ k := fun k e => (HN2.out k e).1
          have hW4 : wr.heap.size ≤ w4.heap.size := hszW4
          refine ⟨b1, b2, ⟨?_, fun e => by have := n1 _ e; omega, fun e => by have := n2 _ e; omega, fun k e => Nat.lt_of_lt_of_le (HN1.out k e).2 (Nat.le_trans hszW45 (grown_set6 (grown_refl w5 (some g)) _ _ _ _ _ _).size), fun k e => Nat.lt_of_lt_of_le (HN2.out k e).2 (grown_set6 (grown_refl w5 (some g)) _ _ _ _ _ _).size, _, _, ((((((HR5.out.set 2 _).set 3 _).set 4 _).set 5 _).set 6 _).set 7 _).congr fun i hi => ?_, HS1'.out.grown (grown_set6 (grown_refl _ _) _ _ _ _ _ _) (fun k e e2 => by injection e2 with e2; have := n1 k e; omega), HS2.out.grown (grown_set6 (grown_refl _ _) _ _ _ _ _ _) (fun k e e2 => by injection e2 with e2; have := n2 k e; omega)⟩, .inl (.inr fun k e => by have := n1 k e; omega), .inl (.inr fun k e => by have := n2 k e; omega), grown_set6 HG5.out _ _ _ _ _ _⟩
          · obtain ⟨q1, q2, q3, q4, q5, q6, q7⟩ := HW.out
            exact ⟨q1, hlm, hlm, hlm, by show (-1 : Int) ≤ -1; omega, by show (-1 : Int) ≤ _; omega, by show 0 ≤ _; omega⟩
          · match i, hi with
            | 0, _ => rfl
            | 1, _ => rfl
            | 2, _ => rfl
            | 3, _ => rfl
            | 4, _ => rfl
            | 5, _ => rfl
            | 6, _ => rfl
            | 7, _ => rfl
            | 8, _ => rfl
end Go.Proofs.YtlhbijpmhokmnaaGreat
namespace Go.Proofs.YtlhbijpmhokmnaaGreat
open Go.RowKit
set_option linter.unusedSimpArgs false
set_option linter.unusedVariables false

theorem Rd.cut {w : World} {B : Option Addr} {l : List Nat} (h : Rd w B l) (a n c : Nat) (hc : a + n ≤ l.length) (hlc : l.length ≤ c) : Rd w (if c = a then B else B.map (·.add a)) ((l.drop a).take n) := by
  refine ⟨fun x hx => h.1 x (List.mem_of_mem_drop (List.mem_of_mem_take hx)), fun hne => ?_⟩
  have hn : 0 < n := by
    rcases Nat.eq_zero_or_pos n with e | e
    · rw [e] at hne; simp at hne
    · exact e
  obtain ⟨b, o, rfl, hb, hq⟩ := h.2 (by intro e; rw [e] at hc; simp at hc; omega)
  refine ⟨b, o + a, by rw [if_neg (by omega)]; simp [Addr.add], hb, fun i hi => ?_⟩
  simp only [List.length_take, List.length_drop] at hi
  rw [Nat.add_assoc, hq (a + i) (by omega)]
  simp [nth, List.getElem?_take, List.getElem?_drop, show i < n by omega]
set_option maxRecDepth 100000 in
set_option maxHeartbeats 2000000 in
theorem read1 {g : Nat} {nb ob : Option Nat} {d : DkS} {w : World} (h : Dk w g nb ob d) (p q r o a n : Nat) (hn : a + n ≤ d.now.length) (h1 : w.cell? ⟨p, 0, none⟩ = some (.pointer (some ⟨g, 0, none⟩))) (h2 : w.cell? ⟨q, 0, none⟩ = some (.int .i64 a)) (h3 : w.cell? ⟨r, 0, none⟩ = some (.int .i64 n)) (h4 : w.cell? ⟨o, 0, none⟩ = some (.slice none 0 0)) (h5 : w.frozen? ⟨o, 0, none⟩ = false) :
    Calls Tryz.prog 63 #[.pointer (some ⟨p, 0, none⟩), .pointer (some ⟨q, 0, none⟩), .pointer (some ⟨r, 0, none⟩), .pointer (some ⟨o, 0, none⟩)] w (Ret fun z w' => z = 0 ∧ ∃ v X, w' = X.setCell ⟨o, 0, none⟩ v ∧ Ow X w.heap.size v ((d.now.drop a).take n) ∧ Below w.heap.size w X) := by
  obtain ⟨B, cb, hcn, hb1, hb2, hrn, hbn⟩ := h.nowC
  have hl : d.now.length ≤ 5000000 := by have := h.wf.now; have := h.wf.most; omega
  have k1 : ((a : Int) + n) ≤ cb := by omega
  have k2 : IntKind.i64.wrap ((a : Int) + n) = a + n := by simp [IntKind.wrap, IntKind.signed, IntKind.bits]; omega
  have k3 : (a : Int) ≤ (a : Int) + n := by omega
  have k4 : ((a : Int) + n).toNat = a + n := by omega
  have k5 : (0 : Int) ≤ (a : Int) + n := by omega
  have hol := block_lt_of_cell h4
  have HT := Lib.hid (hrn.cut a n cb hn hb1)
  have H5 := Lib.hid h5
  have H4 := Lib.hid h4
  clear h hrn hbn h5 h4
  go_enter Tryz.func63, Tryz.ntmps63
  go_wp2_with fail
  refine wp_region_still_tail 9 (by kernel_rfl) (by kernel_rfl) ?_
  simp only [List.take_succ_cons, List.take_zero, List.drop_succ_cons, List.drop_zero]
  repeat still_step
  try refine wpStill_nil ?_
  change wpList _ _ _ _ _ w.drew
  go_wp2_with fail
  all_goals
    refine (clone_ow _ n _ ((d.now.drop a).take n) _ (by simp; omega) (by have := HT.out.drew; simp only [*, if_true, if_false, ↓reduceIte] at this; exact this) (by simp; omega)).mono ?_
    rintro e w3 ⟨v, rfl, ho, hb⟩
    obtain ⟨Av, cv, hv, -, -, -⟩ := ho.form
    have hlen : ((d.now.drop a).take n).length = n := by simp; omega
    rw [hlen] at hv
    subst hv
    have HB : Hid (Below w.heap.size w w3) := (below_drewN' (Below.refl _ _) 1).trans hb
    have HO := Lib.hid ho
    have g5 : w3.frozen? ⟨o, 0, none⟩ = false := (HB.out.frozen (p := ⟨o, 0, none⟩) hol).trans H5.out
    have g4 := (HB.out.cell (p := ⟨o, 0, none⟩) hol).trans H4.out
    clear hb ho
    go_wp2_with fail
    go_ret
    exact ⟨0, rfl, rfl, _, w3, rfl, HO.out, HB.out⟩

theorem Rd.setBox {w : World} {A : Option Addr} {l : List Nat} (h : Rd w A l) {p : Addr} {x : Option Addr} {n c : Nat} (hp : w.cell? p = some (.slice x n c)) (u : Value) : Rd (w.setCell p u) A l := by
  refine ⟨h.1, fun hl => ?_⟩
  obtain ⟨b, o, rfl, hb, hc⟩ := h.2 hl
  refine ⟨b, o, rfl, by simpa [World.setCell] using hb, fun i hi => ?_⟩
  rw [World.cell?_setCell_other (h := ?_)]
  · exact hc i hi
  · rintro rfl
    rw [hc i hi] at hp
    cases hp
theorem Dk.setBox {w : World} {g o : Nat} {nb ob : Option Nat} {d : DkS} (h : Dk w g nb ob d) (ho : o ≠ g) {x : Option Addr} {n c : Nat} (hp : w.cell? ⟨o, 0, none⟩ = some (.slice x n c)) (u : Value) : Dk (w.setCell ⟨o, 0, none⟩ u) g nb ob d := by
  obtain ⟨nv, ov, h1, ⟨A1, c1, e1, p1, p2, p3, p4⟩, ⟨A2, c2, e2, q1, q2, q3, q4⟩⟩ := h.lies
  exact ⟨h.wf, h.nn, h.on, fun k e => by simpa [World.setCell] using h.nl k e, fun k e => by simpa [World.setCell] using h.ol k e, nv, ov, h1.of_block (Below.heap_setCell w ⟨o, 0, none⟩ u g (fun e => ho e.symm)), ⟨A1, c1, e1, p1, p2, p3.setBox hp u, p4⟩, ⟨A2, c2, e2, q1, q2, q3.setBox hp u, q4⟩⟩
theorem three_boxes (w : World) (v1 v2 v3 : Value) (t1 t2 t3 : TypeId) : ∃ W, W = ((w.alloc (.cells #[v1] t1)).alloc (.cells #[v2] t2)).alloc (.cells #[v3] t3) ∧ Below w.heap.size w W ∧ W.cell? ⟨w.heap.size, 0, none⟩ = some v1 ∧ W.cell? ⟨w.heap.size + 1, 0, none⟩ = some v2 ∧ W.cell? ⟨w.heap.size + 1 + 1, 0, none⟩ = some v3 ∧ W.heap.size = w.heap.size + 3 := by
  refine ⟨_, rfl, (((Below.refl _ _).alloc (Nat.le_refl _) _).alloc (by simp) _).alloc (by simp; omega) _, ?_, ?_, ?_, by simp⟩
  · have e1 : (w.alloc (.cells #[v1] t1)).cell? ⟨w.heap.size, 0, none⟩ = some v1 := by rw [cell_of_row _ _ _ _ _ _ (heap_alloc_new w _)]; rfl
    exact ((((Below.refl _ _).alloc (Nat.le_refl _) _).alloc (by simp) _).cell (p := ⟨w.heap.size, 0, none⟩) (by simp)).trans e1
  · have e1 : ((w.alloc (.cells #[v1] t1)).alloc (.cells #[v2] t2)).cell? ⟨w.heap.size + 1, 0, none⟩ = some v2 := by rw [cell_of_row _ _ _ _ _ _ (heap_alloc2_new _ _ _)]; rfl
    exact (((Below.refl _ _).alloc (Nat.le_refl _) _).cell (p := ⟨w.heap.size + 1, 0, none⟩) (by simp)).trans e1
  · skip
    rw [show w.heap.size + 1 + 1 = (w.alloc (.cells #[v1] t1)).heap.size + 1 by simp, cell_of_row _ _ _ _ _ _ (heap_alloc2_new _ _ _)]
    rfl
/-- What ReadAt asks, what it answers. -/
def readB (d : DkS) (a n : Int) : Bool := decide (a < 0) || decide (n < 0) || decide ((d.now.length : Int) < n) || decide ((d.now.length : Int) - n < a)
def readL (d : DkS) (a n : Nat) : List Nat := if d.pre.1 = none then (d.now.drop a).take n else []
set_option maxRecDepth 100000 in
set_option maxHeartbeats 2000000 in
theorem read_no {g : Nat} {nb ob : Option Nat} {d : DkS} {w : World} (h : Dk w g nb ob d) (a n : Int) (hn : readB d a n = true) :
    Calls Tryz.prog 32 #[.pointer (some ⟨g, 0, none⟩), .int .i64 a, .int .i64 n] w fun e w' => e = .returned (.tuple #[.slice none 0 0, .int .i64 2]) ∧ Below w.heap.size w w' := by
  have hgl := h.lt
  have hl : d.now.length ≤ 5000000 := by have := h.wf.now; have := h.wf.most; omega
  have H := Lib.hid h
  clear h
  have hcase : (decide (a < 0) = true) ∨ (decide (a < 0) = false ∧ decide (n < 0) = true) ∨ (decide (a < 0) = false ∧ decide (n < 0) = false ∧ decide ((d.now.length : Int) < n) = true) ∨ (decide (a < 0) = false ∧ decide (n < 0) = false ∧ decide ((d.now.length : Int) < n) = false ∧ decide ((d.now.length : Int) - n < a) = true ∧ IntKind.i64.wrap ((d.now.length : Int) - n) = d.now.length - n) := by
    unfold readB at hn
    simp only [Bool.or_eq_true, decide_eq_true_eq] at hn
    simp only [decide_eq_true_eq, decide_eq_false_iff_not]
    by_cases q1 : a < 0
    · exact .inl q1
    · by_cases q2 : n < 0
      · exact .inr (.inl ⟨q1, q2⟩)
      · by_cases q3 : (d.now.length : Int) < n
        · exact .inr (.inr (.inl ⟨q1, q2, q3⟩))
        · refine .inr (.inr (.inr ⟨q1, q2, q3, by omega, ?_⟩))
          simp [IntKind.wrap, IntKind.signed, IntKind.bits]; omega
  clear hn
  rcases hcase with k1 | ⟨k1, k2⟩ | ⟨k1, k2, k3⟩ | ⟨k1, k2, k3, k4, k5⟩
  all_goals
    go_enter Tryz.func32, Tryz.ntmps32
    go_wp2_with fail
    obtain ⟨W, hW, hg0, c1, c2, c3, hs⟩ := three_boxes w (.pointer (some ⟨g, 0, none⟩)) (.int .i64 a) (.int .i64 n) 23 3 3
    rw [← hW]
    clear hW
    have HD := Lib.hid (H.out.below hg0)
    have HG := Lib.hid (grown_of_below hg0 (some g))
    have HS := Lib.hid hs
    have C1 := Lib.hid c1
    have C2 := Lib.hid c2
    have C3 := Lib.hid c3
    have HBW := Lib.hid hg0
    clear hg0 hs
    refine (none_any HD.out).mono ?_
    rintro e w' ⟨rfl, rfl⟩
    obtain ⟨B, cb, hcn, hb1, hb2, -, -⟩ := HD.out.nowC
    go_wp2_with fail
    go_quiet (fail)
    go_wp2
    go_ret2
    exact ⟨rfl, below_drewN' HBW.out _⟩
set_option maxRecDepth 100000 in
set_option maxHeartbeats 2000000 in
theorem read_any {g : Nat} {nb ob : Option Nat} {d : DkS} {w : World} (h : Dk w g nb ob d) (a n : Nat) (hn : a + n ≤ d.now.length) :
    Calls Tryz.prog 32 #[.pointer (some ⟨g, 0, none⟩), .int .i64 a, .int .i64 n] w fun e w' => ∃ v, e = .returned (.tuple #[v, .int .i64 (d.op fun d => (0, d)).1]) ∧ Ow w' w.heap.size v (readL d a n) ∧ Dk w' g nb ob d.pre.2 ∧ w.grownBy w' (some g) := by
  have hgl := h.lt
  have hl : d.now.length ≤ 5000000 := by have := h.wf.now; have := h.wf.most; omega
  have H := Lib.hid h
  have k1 : decide ((a : Int) < 0) = false := decide_eq_false (by omega)
  have k2 : decide ((n : Int) < 0) = false := decide_eq_false (by omega)
  have k3 : decide ((d.now.length : Int) < n) = false := decide_eq_false (by omega)
  have k3' : decide (d.now.length < n) = false := decide_eq_false (by omega)
  have k4 : decide ((d.now.length : Int) - n < a) = false := decide_eq_false (by omega)
  have k5 : IntKind.i64.wrap ((d.now.length : Int) - n) = d.now.length - n := by simp [IntKind.wrap, IntKind.signed, IntKind.bits]; omega
  clear h
  go_enter Tryz.func32, Tryz.ntmps32
  go_wp2_with fail
  obtain ⟨W, hW, hg0, c1, c2, c3, hs⟩ := three_boxes w (.pointer (some ⟨g, 0, none⟩)) (.int .i64 a) (.int .i64 n) 23 3 3
  rw [← hW]
  clear hW
  have HD := Lib.hid (H.out.below hg0)
  have HG := Lib.hid (grown_of_below hg0 (some g))
  have HS := Lib.hid hs
  have C1 := Lib.hid c1
  have C2 := Lib.hid c2
  have C3 := Lib.hid c3
  have HBW := Lib.hid hg0
  clear hg0 hs
  refine (none_any HD.out).mono ?_
  rintro e w' ⟨rfl, rfl⟩
  obtain ⟨B, cb, hcn, hb1, hb2, -, -⟩ := HD.out.nowC
  go_wp2_with fail
  go_quiet (fail)
  replace HBW : Hid (Below w.heap.size w (W.drewN nq)) := below_drewN' HBW.out nq
  replace HS : Hid ((W.drewN nq).heap.size = w.heap.size + 3) := HS.out
  replace C1 : Hid ((W.drewN nq).cell? ⟨w.heap.size, 0, none⟩ = some (.pointer (some ⟨g, 0, none⟩))) := C1.out
  replace C2 : Hid ((W.drewN nq).cell? ⟨w.heap.size + 1, 0, none⟩ = some (.int .i64 a)) := C2.out
  replace C3 : Hid ((W.drewN nq).cell? ⟨w.heap.size + 1 + 1, 0, none⟩ = some (.int .i64 n)) := C3.out
  clear c1 c2 c3 hcn HD HG
  generalize W.drewN nq = X at *
  have e0 : w.heap.size + 3 = X.heap.size := HS.out.symm
  have hY : Below X.heap.size X (X.alloc (.cells #[.slice none 0 0] 22)) := (Below.refl _ _).alloc (Nat.le_refl _) _
  have hrw : (X.alloc (.cells #[.slice none 0 0] 22)).rowIs X.heap.size 22 1 (fun _ => .slice none 0 0) := ⟨_, heap_alloc_new X _, rfl, fun i hi => by
    match i, hi with
    | 0, _ => rfl⟩
  have c4 := hrw.cell (show 0 < 1 by omega)
  have c5 := hrw.frozen 0
  have hYs : (X.alloc (.cells #[.slice none 0 0] 22)).heap.size = X.heap.size + 1 := by simp
  have c1 := (hY.cell (p := ⟨w.heap.size, 0, none⟩) (by show w.heap.size < X.heap.size; omega)).trans C1.out
  have c2 := (hY.cell (p := ⟨w.heap.size + 1, 0, none⟩) (by show w.heap.size + 1 < X.heap.size; omega)).trans C2.out
  have c3 := (hY.cell (p := ⟨w.heap.size + 1 + 1, 0, none⟩) (by show w.heap.size + 1 + 1 < X.heap.size; omega)).trans C3.out
  have hB : Below w.heap.size w (X.alloc (.cells #[.slice none 0 0] 22)) := HBW.out.trans (hY.mono HBW.out.size)
  have HBY := Lib.hid hB
  have HD := Lib.hid (H.out.below hB)
  have CC1 := Lib.hid c1
  have C2 := Lib.hid c2
  have C3 := Lib.hid c3
  have C4 := Lib.hid c4
  have C5 := Lib.hid c5
  have HYs := Lib.hid hYs
  clear hY hYs c2 c3 c4 c5 hB hrw
  go_wp2_with fail
  generalize X.alloc (.cells #[.slice none 0 0] 22) = Y at *
  have hah : Ahead 63 #[.pointer (some ⟨w.heap.size, 0, none⟩), .pointer (some ⟨w.heap.size + 1, 0, none⟩), .pointer (some ⟨w.heap.size + 1 + 1, 0, none⟩), .pointer (some ⟨X.heap.size, 0, none⟩)] g nb ob d Y (fun z w' => z = (d.op fun d => (0, d)).1 ∧ (∃ Av cv, w'.cell? ⟨X.heap.size, 0, none⟩ = some (.slice Av (readL d a n).length cv) ∧ Ow w' w.heap.size (.slice Av (readL d a n).length cv) (readL d a n)) ∧ Dk w' g nb ob d.pre.2 ∧ w.grownBy w' (some g)) := by
    refine ⟨fun w2 hp hd hg hsz => ?_, fun w2 er hp hd hg hsz => ?_⟩
    · have key : ∀ i, w.heap.size ≤ i → i < Y.heap.size → Y.heap[i]? = w2.heap[i]? := fun i h1 h2 => (hg.block i h2 (by intro e; injection e with e; omega)).symm
      have hXY : X.heap.size < Y.heap.size := by have := HYs.out; omega
      have hbl : ∀ (i : Nat) (v : Value), w.heap.size ≤ i → i < Y.heap.size → Y.cell? ⟨i, 0, none⟩ = some v → w2.cell? ⟨i, 0, none⟩ = some v := fun i v h1 h2 h3 => (World.cell?_of_block (hg.block i h2 (by intro e; injection e with e; omega))).trans h3
      have y4 := hbl X.heap.size _ (by omega) hXY C4.out
      refine (read1 hd w.heap.size (w.heap.size + 1) (w.heap.size + 1 + 1) X.heap.size a n (by rw [(DkS.pre_keeps d).2.1]; exact hn) (hbl _ _ (by omega) (by omega) CC1.out) (hbl _ _ (by omega) (by omega) C2.out) (hbl _ _ (by omega) (by omega) C3.out) y4 ?_).mono ?_
      · have := C5.out
        unfold World.frozen? at this ⊢
        rw [hg.block X.heap.size hXY (by intro e; injection e with e; omega)]
        exact this
      · rintro e w' ⟨z, rfl, rfl, v, V, rfl, ho, hb⟩
        have hL : readL d a n = ((d.pre.2.now.drop a).take n) := by unfold readL; rw [if_pos hp, (DkS.pre_keeps d).2.1]
        obtain ⟨Av, cv, rfl, -, hlt, -⟩ := ho.form
        have hVs := hb.size
        have hne : (Value.slice Av ((d.pre.2.now.drop a).take n).length cv).ownBlock = none ∨ (Value.slice Av ((d.pre.2.now.drop a).take n).length cv).ownBlock ≠ some X.heap.size := by
          refine .inr fun e => ?_
          have := (ho.lt _ e).1
          omega
        have hz : (d.op fun d => ((0 : Int), d)) = (0, d.pre.2) := by
          unfold DkS.op
          cases hq : d.pre with
          | mk x y => rw [hq] at hp; have : x = none := hp; subst this; rfl
        have hXc : V.cell? ⟨X.heap.size, 0, none⟩ = some (.slice none 0 0) := (hb.cell (p := ⟨X.heap.size, 0, none⟩) (by show X.heap.size < w2.heap.size; omega)).trans y4
        have hgV : w.grownBy V (some g) := nil_grown (nil_grown (grown_of_below HBY.out _) hg) (grown_of_below hb _)
        rw [hL, hz]
        refine ⟨0, rfl, rfl, ⟨Av, cv, ?_, (ho.kept (grown_set (p := ⟨X.heap.size, 0, none⟩) (grown_refl _ _) (.inl rfl) _) hne).mono (by omega)⟩, (hd.below hb).setBox (by omega) hXc _, grown_set (p := ⟨X.heap.size, 0, none⟩) hgV (.inr (by show w.heap.size ≤ X.heap.size; omega)) _⟩
        exact World.cell?_setCell_same _ _ _ hXc
    · have hz : (d.op fun d => ((0 : Int), d)) = (er, d.pre.2) := by
        unfold DkS.op
        cases hq : d.pre with
        | mk x y => rw [hq] at hp; have : x = some er := hp; subst this; rfl
      have hL : readL d a n = [] := by unfold readL; rw [if_neg (by rw [hp]; simp)]
      rw [hL, hz]
      refine ⟨rfl, ⟨none, 0, (World.cell?_of_block (hg.block X.heap.size (by have := HYs.out; omega) (by intro e; injection e with e; omega))).trans C4.out, Ow.nil _ _⟩, hd, nil_grown (grown_of_below HBY.out _) hg⟩
  refine (op_any _ _ HD.out (fun W => ?_) hah).mono ?_
  · kernel_rfl
  rintro e w' ⟨r, rfl, rfl, ⟨Av, cv, hc, ho⟩, hd, hg⟩
  have HO := Lib.hid ho
  have HDD := Lib.hid hd
  have HGG := Lib.hid hg
  clear ho hd hg hah
  go_wp2_with fail
  go_ret2
  exact ⟨_, rfl, HO.out, HDD.out, HGG.out⟩
end Go.Proofs.YtlhbijpmhokmnaaGreat
