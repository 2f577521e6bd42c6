/-
  THE WALK OF quillpressref15.Right, the document's answer for an instruction. Conditions: an Op is a byte.
  THE WALKS OF quillpressref19's plain, condition. Conditions: an Op is a byte.
  THE WALKS OF quillpressref19's Depth, count, Count. Conditions: a tree of at most 3000 statements.
  THE WALK OF quillpressref19.each. Conditions: a tree of at most 3000 statements; an Op is a byte.
  THE WALKS OF quillpressref19's Right, Config. Conditions: trees of at most 3000 statements; an Op is a byte.
-/
import Derived.Test.YtiadfmhodlbkiaaCodeR2
import Derived.Deep.QuietTactic
import Derived.BigQuiet
import Derived.Deep.DeepCutAuto
import Derived.Test.YtiadfmhodlbkiaaSynW1
import Derived.Test.YtiadfmhodlbkiaaDeepW
import Derived.Deep.CutBlock
import Derived.Test.YtiadfmhodlbkiaaSynW4
namespace Go.Proofs.Ytiadfmhodlbkiaa
open Go.RowKit
set_option linter.unusedSimpArgs false
set_option linter.unusedVariables false
set_option maxRecDepth 100000
def wi (x a b : Int) : Bool := decide (a ≤ x) && decide (x ≤ b)
theorem within15_any (x a b : Int) (w : World) : Calls Try.prog 108 #[.int .i64 x, .int .i64 a, .int .i64 b] w fun e w' => e = .returned (.bool (wi x a b)) ∧ w' = w := by
  unfold wi
  by_cases h0 : a ≤ x
  · rw [decide_eq_true h0]
    by_cases h1 : x ≤ b
    · rw [decide_eq_true h1]
      go_enter Try.func108, Try.ntmps108
      go_wp2_with fail
      go_ret
      exact ⟨rfl, rfl⟩
    · rw [decide_eq_false h1]
      go_enter Try.func108, Try.ntmps108
      go_wp2_with fail
      go_ret
      refine ⟨?_, rfl⟩
      first
        | rfl
        | (show Ending.returned (.bool (decide (x ≤ b))) = _; rw [decide_eq_false (by omega)]; rfl)
  · rw [decide_eq_false h0]
    go_enter Try.func108, Try.ntmps108
    go_wp2_with fail
    go_ret
    exact ⟨rfl, rfl⟩
def clsN (o : Nat) : Nat :=
  if o = 0 ∨ o = 24 ∨ o = 25 ∨ o = 26 then 1 else if o = 1 then 2 else if o = 2 then 3 else if o ≤ 7 then 4 else if o ≤ 21 then 5 else if o = 22 then 6 else if o = 23 then 7 else if o ≤ 29 then 8 else if o = 30 then 9 else 0
set_option maxHeartbeats 8000000 in
theorem class_any (o : Nat) (w : World) : Calls Try.prog 107 #[.int .u8 o] w fun e w' => e = .returned (.int .i64 (clsN o)) ∧ w' = w := by
  by_cases h30 : o ≤ 30
  · have hc : o = 0 ∨ o = 1 ∨ o = 2 ∨ o = 3 ∨ o = 4 ∨ o = 5 ∨ o = 6 ∨ o = 7 ∨ o = 8 ∨ o = 9 ∨ o = 10 ∨ o = 11 ∨ o = 12 ∨ o = 13 ∨ o = 14 ∨ o = 15 ∨ o = 16 ∨ o = 17 ∨ o = 18 ∨ o = 19 ∨ o = 20 ∨ o = 21 ∨ o = 22 ∨ o = 23 ∨ o = 24 ∨ o = 25 ∨ o = 26 ∨ o = 27 ∨ o = 28 ∨ o = 29 ∨ o = 30 := by omega
    clear h30
    rcases hc with rfl | rfl | rfl | rfl | rfl | rfl | rfl | rfl | rfl | rfl | rfl | rfl | rfl | rfl | rfl | rfl | rfl | rfl | rfl | rfl | rfl | rfl | rfl | rfl | rfl | rfl | rfl | rfl | rfl | rfl | rfl
    all_goals
      go_enter Try.func107, Try.ntmps107
      go_wp2_with fail
      go_ret
      exact ⟨rfl, rfl⟩
  · have hq : clsN o = 0 := by
      unfold clsN
      rw [if_neg (by omega), if_neg (by omega), if_neg (by omega), if_neg (by omega), if_neg (by omega), if_neg (by omega), if_neg (by omega), if_neg (by omega), if_neg (by omega)]
    rw [hq]
    have e0 : ((o : Int) == 0) = false := by rw [beq_eq_false_iff_ne]; omega
    have e1 : ((o : Int) == 1) = false := by rw [beq_eq_false_iff_ne]; omega
    have e2 : ((o : Int) == 2) = false := by rw [beq_eq_false_iff_ne]; omega
    have e22 : ((o : Int) == 22) = false := by rw [beq_eq_false_iff_ne]; omega
    have e23 : ((o : Int) == 23) = false := by rw [beq_eq_false_iff_ne]; omega
    have e24 : ((o : Int) == 24) = false := by rw [beq_eq_false_iff_ne]; omega
    have e25 : ((o : Int) == 25) = false := by rw [beq_eq_false_iff_ne]; omega
    have e26 : ((o : Int) == 26) = false := by rw [beq_eq_false_iff_ne]; omega
    have e30 : ((o : Int) == 30) = false := by rw [beq_eq_false_iff_ne]; omega
    have l7 : ¬ (o : Int) ≤ 7 := by omega
    have l21 : ¬ (o : Int) ≤ 21 := by omega
    have l29 : ¬ (o : Int) ≤ 29 := by omega
    clear hq h30
    go_enter Try.func107, Try.ntmps107
    go_wp2_with fail
    go_ret
    exact ⟨rfl, rfl⟩
theorem cls_shp (o : Nat) : (clsN o = 1 ∧ shp o = ⟨true, -1, false, false, false, false, false⟩) ∨ (clsN o = 2 ∧ shp o = ⟨true, 6, true, false, false, false, false⟩) ∨ (clsN o = 3 ∧ shp o = ⟨true, 6, false, false, true, false, false⟩) ∨ (clsN o = 4 ∧ shp o = ⟨true, 6, false, false, false, false, false⟩) ∨ (clsN o = 5 ∧ shp o = ⟨true, -1, false, true, false, false, false⟩) ∨ (clsN o = 6 ∧ shp o = ⟨true, 3, false, false, true, false, false⟩) ∨ (clsN o = 7 ∧ shp o = ⟨true, -1, false, false, true, false, false⟩) ∨ (clsN o = 8 ∧ shp o = ⟨true, -1, false, false, false, true, false⟩) ∨ (clsN o = 9 ∧ shp o = ⟨true, -1, false, false, false, false, true⟩) ∨ (clsN o = 0 ∧ shp o = ⟨false, 0, false, false, false, false, false⟩) := by
  by_cases h30 : o ≤ 30
  · have hc : o = 0 ∨ o = 1 ∨ o = 2 ∨ o = 3 ∨ o = 4 ∨ o = 5 ∨ o = 6 ∨ o = 7 ∨ o = 8 ∨ o = 9 ∨ o = 10 ∨ o = 11 ∨ o = 12 ∨ o = 13 ∨ o = 14 ∨ o = 15 ∨ o = 16 ∨ o = 17 ∨ o = 18 ∨ o = 19 ∨ o = 20 ∨ o = 21 ∨ o = 22 ∨ o = 23 ∨ o = 24 ∨ o = 25 ∨ o = 26 ∨ o = 27 ∨ o = 28 ∨ o = 29 ∨ o = 30 := by omega
    rcases hc with rfl | rfl | rfl | rfl | rfl | rfl | rfl | rfl | rfl | rfl | rfl | rfl | rfl | rfl | rfl | rfl | rfl | rfl | rfl | rfl | rfl | rfl | rfl | rfl | rfl | rfl | rfl | rfl | rfl | rfl | rfl <;> simp [clsN, shp]
  · have h1 : clsN o = 0 := by
      unfold clsN
      rw [if_neg (by omega), if_neg (by omega), if_neg (by omega), if_neg (by omega), if_neg (by omega), if_neg (by omega), if_neg (by omega), if_neg (by omega), if_neg (by omega)]
    have h2 : shp o = ⟨false, 0, false, false, false, false, false⟩ := by
      unfold shp
      rw [if_neg (by omega), if_neg (by omega), if_neg (by omega), if_neg (by omega), if_neg (by omega), if_neg (by omega), if_neg (by omega), if_neg (by omega), if_neg (by omega)]
    simp [h1, h2]
theorem rx_1 (d s n : Int) : rightX ⟨true, -1, false, false, false, false, false⟩ d s n = (decide (d = 0) && decide (s = 0) && decide (n = 0)) := by
  rw [Bool.eq_iff_iff]
  simp [rightX, inI, wi]
  omega
theorem rx_2 (d s n : Int) : rightX ⟨true, 6, true, false, false, false, false⟩ d s n = (wi d 0 6 && wi s 0 6 && decide (n = 0)) := by
  rw [Bool.eq_iff_iff]
  simp [rightX, inI, wi]
  omega
theorem rx_3 (d s n : Int) : rightX ⟨true, 6, false, false, true, false, false⟩ d s n = (wi d 0 6 && decide (s = 0) && wi n 0 255) := by
  rw [Bool.eq_iff_iff]
  simp [rightX, inI, wi]
  omega
theorem rx_4 (d s n : Int) : rightX ⟨true, 6, false, false, false, false, false⟩ d s n = (wi d 0 6 && decide (s = 0) && decide (n = 0)) := by
  rw [Bool.eq_iff_iff]
  simp [rightX, inI, wi]
  omega
theorem rx_6 (d s n : Int) : rightX ⟨true, 3, false, false, true, false, false⟩ d s n = (wi d 0 3 && decide (s = 0) && wi n 0 255) := by
  rw [Bool.eq_iff_iff]
  simp [rightX, inI, wi]
  omega
theorem rx_7 (d s n : Int) : rightX ⟨true, -1, false, false, true, false, false⟩ d s n = (decide (d = 0) && decide (s = 0) && wi n 0 255) := by
  rw [Bool.eq_iff_iff]
  simp [rightX, inI, wi]
  omega
theorem rx_8 (d s n : Int) : rightX ⟨true, -1, false, false, false, true, false⟩ d s n = (decide (d = 0) && decide (s = 0) && wi n 0 65535) := by
  rw [Bool.eq_iff_iff]
  simp [rightX, inI, wi]
  omega
theorem rx_9 (d s n : Int) : rightX ⟨true, -1, false, false, false, false, true⟩ d s n = (decide (d = 0) && decide (s = 0) && wi n 0 65535) := by
  rw [Bool.eq_iff_iff]
  simp [rightX, inI, wi]
  omega
theorem rx_5 (d s n : Int) : rightX ⟨true, -1, false, true, false, false, false⟩ d s n = (decide (d = 0) && ((wi s 0 6 && decide (n = 0)) || (decide (s = 7) && wi n 0 255))) := by
  rw [Bool.eq_iff_iff]
  by_cases h7 : s = 7
  · simp [rightX, inI, wi, h7]; try omega
  · simp [rightX, inI, wi, h7]; omega
set_option maxHeartbeats 16000000 in
theorem rright_any (o : Nat) (ho : o < 256) (d s n : Int) (w : World) : Calls Try.prog 106 #[insV o d s n] w fun e w' => e = .returned (.int .i64 (if rightI o d s n then 0 else 110)) ∧ Below w.heap.size w w' := by
  obtain ⟨z, hz⟩ : ∃ z : Int, z = if rightI o d s n = true then 0 else 110 := ⟨_, rfl⟩
  rw [← hz]
  unfold insV
  unfold rightI at hz
  have hcs := cls_shp o
  have HC := Lib.hid (class_any o)
  have HW := Lib.hid within15_any
  have hba : Below w.heap.size w (w.alloc (.cells #[.int .u8 o, .int .i64 d, .int .i64 s, .int .i64 n] 70)) := (Below.refl _ _).alloc (Nat.le_refl _) _
  have r4 := heap_alloc_new w (.cells #[.int .u8 o, .int .i64 d, .int .i64 s, .int .i64 n] 70)
  obtain ⟨bd, hbd⟩ : ∃ b, b = decide (d = 0) := ⟨_, rfl⟩
  obtain ⟨bs, hbs⟩ : ∃ b, b = decide (s = 0) := ⟨_, rfl⟩
  obtain ⟨bn, hbn⟩ : ∃ b, b = decide (n = 0) := ⟨_, rfl⟩
  have hd0 : (d == 0) = bd := by rw [hbd]; rfl
  have hs0 : (s == 0) = bs := by rw [hbs]; rfl
  have hn0 : (n == 0) = bn := by rw [hbn]; rfl
  have HBD := Lib.hid (And.intro hbd (And.intro hbs hbn))
  clear hbd hbs hbn
  go_enter Try.func106, Try.ntmps106
  go_upto_region 1 with fail
  generalize w.alloc (.cells #[.int .u8 o, .int .i64 d, .int .i64 s, .int .i64 n] 70) = W1 at *
  have c0 : W1.cell? ⟨w.heap.size, 0, none⟩ = some (.int .u8 o) := cell_of_row _ _ _ _ _ _ r4
  have c1 : W1.cell? ⟨w.heap.size, 1, none⟩ = some (.int .i64 d) := cell_of_row _ _ _ _ _ _ r4
  have c2 : W1.cell? ⟨w.heap.size, 2, none⟩ = some (.int .i64 s) := cell_of_row _ _ _ _ _ _ r4
  have c3 : W1.cell? ⟨w.heap.size, 3, none⟩ = some (.int .i64 n) := cell_of_row _ _ _ _ _ _ r4
  have HB := Lib.hid hba
  clear hba r4
  go_quiet (fail)
  have HBQ := Lib.hid (below_drewN' HB.out nq)
  have d0 : (W1.drewN nq).cell? ⟨w.heap.size, 0, none⟩ = some (.int .u8 o) := c0
  have d1 : (W1.drewN nq).cell? ⟨w.heap.size, 1, none⟩ = some (.int .i64 d) := c1
  have d2 : (W1.drewN nq).cell? ⟨w.heap.size, 2, none⟩ = some (.int .i64 s) := c2
  have d3 : (W1.drewN nq).cell? ⟨w.heap.size, 3, none⟩ = some (.int .i64 n) := c3
  generalize W1.drewN nq = W2 at *
  clear c0 c1 c2 c3 HB
  rcases hcs with ⟨h1, h2⟩ | ⟨h1, h2⟩ | ⟨h1, h2⟩ | ⟨h1, h2⟩ | ⟨h1, h2⟩ | ⟨h1, h2⟩ | ⟨h1, h2⟩ | ⟨h1, h2⟩ | ⟨h1, h2⟩ | ⟨h1, h2⟩
  · rw [h2, rx_1] at hz
    rw [h1] at HC
    rw [← HBD.out.1, ← HBD.out.2.1, ← HBD.out.2.2] at hz
    have HZ := Lib.hid hz
    clear hz h1 h2 HBD
    go_wp2_with fail
    refine (HC.out _).mono ?_
    rintro e w3 ⟨rfl, rfl⟩
    cases bd with
    | false =>
      go_wp2_with fail
      go_ret
      exact ⟨by rw [HZ.out]; rfl, HBQ.out⟩
    | true =>
      cases bs with
      | false =>
        go_wp2_with fail
        go_ret
        exact ⟨by rw [HZ.out]; rfl, HBQ.out⟩
      | true =>
        cases bn with
        | false =>
          go_wp2_with fail
          go_ret
          exact ⟨by rw [HZ.out]; rfl, HBQ.out⟩
        | true =>
          go_wp2_with fail
          go_ret
          exact ⟨by rw [HZ.out]; rfl, HBQ.out⟩
  · rw [h2, rx_2] at hz
    rw [h1] at HC
    obtain ⟨q0, hq0⟩ : ∃ q, q = wi d 0 6 := ⟨_, rfl⟩
    have HW0 := Lib.hid (fun W => hq0 ▸ HW.out d 0 6 W)
    obtain ⟨q1, hq1⟩ : ∃ q, q = wi s 0 6 := ⟨_, rfl⟩
    have HW1 := Lib.hid (fun W => hq1 ▸ HW.out s 0 6 W)
    rw [← HBD.out.2.2, ← hq0, ← hq1] at hz
    have HZ := Lib.hid hz
    clear hz h1 h2 HBD hq0 hq1
    go_wp2_with fail
    refine (HC.out _).mono ?_
    rintro e w3 ⟨rfl, rfl⟩
    go_wp2_with fail
    refine (HW0.out _).mono ?_
    rintro e w5 ⟨rfl, rfl⟩
    cases q0 with
    | false =>
      go_wp2_with fail
      go_ret
      exact ⟨by rw [HZ.out]; rfl, HBQ.out⟩
    | true =>
      go_wp2_with fail
      refine (HW1.out _).mono ?_
      rintro e w6 ⟨rfl, rfl⟩
      cases q1 with
      | false =>
        go_wp2_with fail
        go_ret
        exact ⟨by rw [HZ.out]; rfl, HBQ.out⟩
      | true =>
        cases bn with
        | false =>
          go_wp2_with fail
          go_ret
          exact ⟨by rw [HZ.out]; rfl, HBQ.out⟩
        | true =>
          go_wp2_with fail
          go_ret
          exact ⟨by rw [HZ.out]; rfl, HBQ.out⟩
  · rw [h2, rx_3] at hz
    rw [h1] at HC
    obtain ⟨q0, hq0⟩ : ∃ q, q = wi d 0 6 := ⟨_, rfl⟩
    have HW0 := Lib.hid (fun W => hq0 ▸ HW.out d 0 6 W)
    obtain ⟨q2, hq2⟩ : ∃ q, q = wi n 0 255 := ⟨_, rfl⟩
    have HW2 := Lib.hid (fun W => hq2 ▸ HW.out n 0 255 W)
    rw [← HBD.out.2.1, ← hq0, ← hq2] at hz
    have HZ := Lib.hid hz
    clear hz h1 h2 HBD hq0 hq2
    go_wp2_with fail
    refine (HC.out _).mono ?_
    rintro e w3 ⟨rfl, rfl⟩
    go_wp2_with fail
    refine (HW0.out _).mono ?_
    rintro e w5 ⟨rfl, rfl⟩
    cases q0 with
    | false =>
      go_wp2_with fail
      go_ret
      exact ⟨by rw [HZ.out]; rfl, HBQ.out⟩
    | true =>
      cases bs with
      | false =>
        go_wp2_with fail
        go_ret
        exact ⟨by rw [HZ.out]; rfl, HBQ.out⟩
      | true =>
        go_wp2_with fail
        refine (HW2.out _).mono ?_
        rintro e w7 ⟨rfl, rfl⟩
        cases q2 with
        | false =>
          go_wp2_with fail
          go_ret
          exact ⟨by rw [HZ.out]; rfl, HBQ.out⟩
        | true =>
          go_wp2_with fail
          go_ret
          exact ⟨by rw [HZ.out]; rfl, HBQ.out⟩
  · rw [h2, rx_4] at hz
    rw [h1] at HC
    obtain ⟨q0, hq0⟩ : ∃ q, q = wi d 0 6 := ⟨_, rfl⟩
    have HW0 := Lib.hid (fun W => hq0 ▸ HW.out d 0 6 W)
    rw [← HBD.out.2.1, ← HBD.out.2.2, ← hq0] at hz
    have HZ := Lib.hid hz
    clear hz h1 h2 HBD hq0
    go_wp2_with fail
    refine (HC.out _).mono ?_
    rintro e w3 ⟨rfl, rfl⟩
    go_wp2_with fail
    refine (HW0.out _).mono ?_
    rintro e w5 ⟨rfl, rfl⟩
    cases q0 with
    | false =>
      go_wp2_with fail
      go_ret
      exact ⟨by rw [HZ.out]; rfl, HBQ.out⟩
    | true =>
      cases bs with
      | false =>
        go_wp2_with fail
        go_ret
        exact ⟨by rw [HZ.out]; rfl, HBQ.out⟩
      | true =>
        cases bn with
        | false =>
          go_wp2_with fail
          go_ret
          exact ⟨by rw [HZ.out]; rfl, HBQ.out⟩
        | true =>
          go_wp2_with fail
          go_ret
          exact ⟨by rw [HZ.out]; rfl, HBQ.out⟩
  · rw [h2, rx_5] at hz
    rw [h1] at HC
    obtain ⟨q1, hq1⟩ : ∃ q, q = wi s 0 6 := ⟨_, rfl⟩
    have HW1 := Lib.hid (fun W => hq1 ▸ HW.out s 0 6 W)
    obtain ⟨q3, hq3⟩ : ∃ q, q = wi n 0 255 := ⟨_, rfl⟩
    have HW3 := Lib.hid (fun W => hq3 ▸ HW.out n 0 255 W)
    obtain ⟨q7, hq7⟩ : ∃ q, q = decide (s = 7) := ⟨_, rfl⟩
    have hs7 : (s == 7) = q7 := by rw [hq7]; rfl
    rw [← HBD.out.1, ← HBD.out.2.2, ← hq1, ← hq3, ← hq7] at hz
    have HZ := Lib.hid hz
    clear hz h1 h2 HBD hq1 hq3 hq7
    go_wp2_with fail
    refine (HC.out _).mono ?_
    rintro e w3 ⟨rfl, rfl⟩
    cases bd with
    | false =>
      go_wp2_with fail
      go_ret
      exact ⟨by rw [HZ.out]; rfl, HBQ.out⟩
    | true =>
      go_wp2_with fail
      refine (HW1.out _).mono ?_
      rintro e w6 ⟨rfl, rfl⟩
      cases q1
      case' true =>
        cases bn
        case true =>
          go_wp2_with fail
          go_ret
          exact ⟨by rw [HZ.out]; rfl, HBQ.out⟩
        case' false => skip
      case' false => skip
      all_goals
        cases q7 with
        | false =>
          go_wp2_with fail
          go_ret
          exact ⟨by rw [HZ.out]; rfl, HBQ.out⟩
        | true =>
          go_wp2_with fail
          refine (HW3.out _).mono ?_
          rintro e w7 ⟨rfl, rfl⟩
          cases q3 with
          | false =>
            go_wp2_with fail
            go_ret
            exact ⟨by rw [HZ.out]; rfl, HBQ.out⟩
          | true =>
            go_wp2_with fail
            go_ret
            exact ⟨by rw [HZ.out]; rfl, HBQ.out⟩
  · rw [h2, rx_6] at hz
    rw [h1] at HC
    obtain ⟨q0, hq0⟩ : ∃ q, q = wi d 0 3 := ⟨_, rfl⟩
    have HW0 := Lib.hid (fun W => hq0 ▸ HW.out d 0 3 W)
    obtain ⟨q2, hq2⟩ : ∃ q, q = wi n 0 255 := ⟨_, rfl⟩
    have HW2 := Lib.hid (fun W => hq2 ▸ HW.out n 0 255 W)
    rw [← HBD.out.2.1, ← hq0, ← hq2] at hz
    have HZ := Lib.hid hz
    clear hz h1 h2 HBD hq0 hq2
    go_wp2_with fail
    refine (HC.out _).mono ?_
    rintro e w3 ⟨rfl, rfl⟩
    go_wp2_with fail
    refine (HW0.out _).mono ?_
    rintro e w5 ⟨rfl, rfl⟩
    cases q0 with
    | false =>
      go_wp2_with fail
      go_ret
      exact ⟨by rw [HZ.out]; rfl, HBQ.out⟩
    | true =>
      cases bs with
      | false =>
        go_wp2_with fail
        go_ret
        exact ⟨by rw [HZ.out]; rfl, HBQ.out⟩
      | true =>
        go_wp2_with fail
        refine (HW2.out _).mono ?_
        rintro e w7 ⟨rfl, rfl⟩
        cases q2 with
        | false =>
          go_wp2_with fail
          go_ret
          exact ⟨by rw [HZ.out]; rfl, HBQ.out⟩
        | true =>
          go_wp2_with fail
          go_ret
          exact ⟨by rw [HZ.out]; rfl, HBQ.out⟩
  · rw [h2, rx_7] at hz
    rw [h1] at HC
    obtain ⟨q2, hq2⟩ : ∃ q, q = wi n 0 255 := ⟨_, rfl⟩
    have HW2 := Lib.hid (fun W => hq2 ▸ HW.out n 0 255 W)
    rw [← HBD.out.1, ← HBD.out.2.1, ← hq2] at hz
    have HZ := Lib.hid hz
    clear hz h1 h2 HBD hq2
    go_wp2_with fail
    refine (HC.out _).mono ?_
    rintro e w3 ⟨rfl, rfl⟩
    cases bd with
    | false =>
      go_wp2_with fail
      go_ret
      exact ⟨by rw [HZ.out]; rfl, HBQ.out⟩
    | true =>
      cases bs with
      | false =>
        go_wp2_with fail
        go_ret
        exact ⟨by rw [HZ.out]; rfl, HBQ.out⟩
      | true =>
        go_wp2_with fail
        refine (HW2.out _).mono ?_
        rintro e w7 ⟨rfl, rfl⟩
        cases q2 with
        | false =>
          go_wp2_with fail
          go_ret
          exact ⟨by rw [HZ.out]; rfl, HBQ.out⟩
        | true =>
          go_wp2_with fail
          go_ret
          exact ⟨by rw [HZ.out]; rfl, HBQ.out⟩
  · rw [h2, rx_8] at hz
    rw [h1] at HC
    obtain ⟨q2, hq2⟩ : ∃ q, q = wi n 0 65535 := ⟨_, rfl⟩
    have HW2 := Lib.hid (fun W => hq2 ▸ HW.out n 0 65535 W)
    rw [← HBD.out.1, ← HBD.out.2.1, ← hq2] at hz
    have HZ := Lib.hid hz
    clear hz h1 h2 HBD hq2
    go_wp2_with fail
    refine (HC.out _).mono ?_
    rintro e w3 ⟨rfl, rfl⟩
    cases bd with
    | false =>
      go_wp2_with fail
      go_ret
      exact ⟨by rw [HZ.out]; rfl, HBQ.out⟩
    | true =>
      cases bs with
      | false =>
        go_wp2_with fail
        go_ret
        exact ⟨by rw [HZ.out]; rfl, HBQ.out⟩
      | true =>
        go_wp2_with fail
        refine (HW2.out _).mono ?_
        rintro e w7 ⟨rfl, rfl⟩
        cases q2 with
        | false =>
          go_wp2_with fail
          go_ret
          exact ⟨by rw [HZ.out]; rfl, HBQ.out⟩
        | true =>
          go_wp2_with fail
          go_ret
          exact ⟨by rw [HZ.out]; rfl, HBQ.out⟩
  · rw [h2, rx_9] at hz
    rw [h1] at HC
    obtain ⟨q2, hq2⟩ : ∃ q, q = wi n 0 65535 := ⟨_, rfl⟩
    have HW2 := Lib.hid (fun W => hq2 ▸ HW.out n 0 65535 W)
    rw [← HBD.out.1, ← HBD.out.2.1, ← hq2] at hz
    have HZ := Lib.hid hz
    clear hz h1 h2 HBD hq2
    go_wp2_with fail
    refine (HC.out _).mono ?_
    rintro e w3 ⟨rfl, rfl⟩
    cases bd with
    | false =>
      go_wp2_with fail
      go_ret
      exact ⟨by rw [HZ.out]; rfl, HBQ.out⟩
    | true =>
      cases bs with
      | false =>
        go_wp2_with fail
        go_ret
        exact ⟨by rw [HZ.out]; rfl, HBQ.out⟩
      | true =>
        go_wp2_with fail
        refine (HW2.out _).mono ?_
        rintro e w7 ⟨rfl, rfl⟩
        cases q2 with
        | false =>
          go_wp2_with fail
          go_ret
          exact ⟨by rw [HZ.out]; rfl, HBQ.out⟩
        | true =>
          go_wp2_with fail
          go_ret
          exact ⟨by rw [HZ.out]; rfl, HBQ.out⟩
  · rw [h2] at hz
    rw [h1] at HC
    have hz : z = 110 := hz
    have HZ := Lib.hid hz
    clear hz h1 h2 HBD
    go_wp2_with fail
    refine (HC.out _).mono ?_
    rintro e w3 ⟨rfl, rfl⟩
    go_wp2_with fail
    go_ret
    exact ⟨by rw [HZ.out]; rfl, HBQ.out⟩
end Go.Proofs.Ytiadfmhodlbkiaa
namespace Go.Proofs.Ytiadfmhodlbkiaa
open Go.RowKit
set_option linter.unusedSimpArgs false
set_option linter.unusedVariables false
set_option maxRecDepth 100000 in
set_option maxHeartbeats 8000000 in
theorem rplain_any (o : Nat) (ho : o < 256) (d s n : Int) (post : Bool) (w : World) : Calls Try.prog 98 #[insV o d s n, .bool post] w fun e w' => e = .returned (.bool (plainS ⟨o, d, s, n⟩ post)) ∧ Below w.heap.size w w' := by
  have HR := Lib.hid (fun W => rright_any o ho d s n W)
  unfold insV at *
  obtain ⟨r, hr⟩ : ∃ r, r = plainS ⟨o, d, s, n⟩ post := ⟨_, rfl⟩
  rw [← hr]
  unfold plainS at hr
  simp only [] at hr
  cases hq : rightI o d s n with
  | false =>
    rw [hq] at HR hr
    simp only [Bool.false_eq_true, if_false] at HR
    have hr2 : r = false := by rw [hr]; simp
    subst hr2
    clear hr hq
    go_enter Try.func98, Try.ntmps98
    go_wp2_with fail
    refine (HR.out _).mono ?_
    rintro e W2 ⟨rfl, hb⟩
    obtain ⟨hk, hb2⟩ := blk_keep hb
    have c0 : W2.cell? ⟨w.heap.size, 0, none⟩ = some (.int .u8 o) := hk 0
    have HB2 := Lib.hid hb2
    clear hb hk hb2
    go_wp2_with fail
    go_ret
    refine ⟨?_, HB2.out⟩
    rfl
  | true =>
    rw [hq] at HR hr
    simp only [if_true] at HR
    clear hq
    have cases6 : o = 0 ∨ (1 ≤ o ∧ o ≤ 18) ∨ (19 ≤ o ∧ o ≤ 21) ∨ (22 ≤ o ∧ o ≤ 25) ∨ o = 26 ∨ 27 ≤ o := by omega
    rcases cases6 with h | h | h | h | h | h
    · have hr2 : r = false := by rw [hr]; simp [h]
      subst hr2
      have i1 : ¬ (1 : Int) ≤ (o : Int) := by omega
      have i2 : ¬ (22 : Int) ≤ (o : Int) := by omega
      have i3 : ((o : Int) == 26) = false := by rw [beq_eq_false_iff_ne]; omega
      clear hr h
      go_enter Try.func98, Try.ntmps98
      go_wp2_with fail
      refine (HR.out _).mono ?_
      rintro e W2 ⟨rfl, hb⟩
      obtain ⟨hk, hb2⟩ := blk_keep hb
      have c0 : W2.cell? ⟨w.heap.size, 0, none⟩ = some (.int .u8 o) := hk 0
      have HB2 := Lib.hid hb2
      clear hb hk hb2
      go_wp2_with fail
      go_ret
      refine ⟨?_, HB2.out⟩
      rfl
    · have hr2 : r = true := by
        rw [hr]
        have a1 : ¬ o = 0 := by omega
        have a2 : ¬ 27 ≤ o := by omega
        have a3 : ¬ 19 ≤ o := by omega
        have a4 : ¬ o = 26 := by omega
        simp [a1, a2, a3, a4]
        try omega
      subst hr2
      have i1 : (1 : Int) ≤ (o : Int) := by omega
      have i2 : (o : Int) ≤ 18 := by omega
      clear hr h
      go_enter Try.func98, Try.ntmps98
      go_wp2_with fail
      refine (HR.out _).mono ?_
      rintro e W2 ⟨rfl, hb⟩
      obtain ⟨hk, hb2⟩ := blk_keep hb
      have c0 : W2.cell? ⟨w.heap.size, 0, none⟩ = some (.int .u8 o) := hk 0
      have HB2 := Lib.hid hb2
      clear hb hk hb2
      go_wp2_with fail
      go_ret
      refine ⟨?_, HB2.out⟩
      rfl
    · have hr2 : r = false := by
        rw [hr]
        simp [h.1, h.2]
      subst hr2
      have i1 : (1 : Int) ≤ (o : Int) := by omega
      have i2 : ¬ (o : Int) ≤ 18 := by omega
      have i4 : ¬ (22 : Int) ≤ (o : Int) := by omega
      have i3 : ((o : Int) == 26) = false := by rw [beq_eq_false_iff_ne]; omega
      have i5 : decide ((o : Int) ≤ 18) = false := decide_eq_false i2
      have i6 : decide ((22 : Int) ≤ (o : Int)) = false := decide_eq_false i4
      clear hr h
      go_enter Try.func98, Try.ntmps98
      go_wp2_with fail
      refine (HR.out _).mono ?_
      rintro e W2 ⟨rfl, hb⟩
      obtain ⟨hk, hb2⟩ := blk_keep hb
      have c0 : W2.cell? ⟨w.heap.size, 0, none⟩ = some (.int .u8 o) := hk 0
      have HB2 := Lib.hid hb2
      clear hb hk hb2
      go_wp2_with fail
      go_ret
      refine ⟨?_, HB2.out⟩
      rfl
    · have hr2 : r = true := by
        rw [hr]
        have a1 : ¬ o = 0 := by omega
        have a2 : ¬ 27 ≤ o := by omega
        have a3 : ¬ o ≤ 21 := by omega
        have a4 : ¬ o = 26 := by omega
        simp [a1, a2, a3, a4]
        try omega
      subst hr2
      have i1 : (1 : Int) ≤ (o : Int) := by omega
      have i2 : ¬ (o : Int) ≤ 18 := by omega
      have i4 : (22 : Int) ≤ (o : Int) := by omega
      have i5 : (o : Int) ≤ 25 := by omega
      have i6 : decide ((o : Int) ≤ 18) = false := decide_eq_false i2
      clear hr h
      go_enter Try.func98, Try.ntmps98
      go_wp2_with fail
      refine (HR.out _).mono ?_
      rintro e W2 ⟨rfl, hb⟩
      obtain ⟨hk, hb2⟩ := blk_keep hb
      have c0 : W2.cell? ⟨w.heap.size, 0, none⟩ = some (.int .u8 o) := hk 0
      have HB2 := Lib.hid hb2
      clear hb hk hb2
      go_wp2_with fail
      go_ret
      refine ⟨?_, HB2.out⟩
      rfl
    · have hr2 : r = post := by rw [hr, h]; simp
      subst hr2
      subst h
      clear hr
      cases r with
      | true =>
        go_enter Try.func98, Try.ntmps98
        go_wp2_with fail
        refine (HR.out _).mono ?_
        rintro e W2 ⟨rfl, hb⟩
        obtain ⟨hk, hb2⟩ := blk_keep hb
        have c0 : W2.cell? ⟨w.heap.size, 0, none⟩ = some (.int .u8 26) := hk 0
        have HB2 := Lib.hid hb2
        clear hb hk hb2
        go_wp2_with fail
        go_ret
        refine ⟨?_, HB2.out⟩
        rfl
      | false =>
        go_enter Try.func98, Try.ntmps98
        go_wp2_with fail
        refine (HR.out _).mono ?_
        rintro e W2 ⟨rfl, hb⟩
        obtain ⟨hk, hb2⟩ := blk_keep hb
        have c0 : W2.cell? ⟨w.heap.size, 0, none⟩ = some (.int .u8 26) := hk 0
        have HB2 := Lib.hid hb2
        clear hb hk hb2
        go_wp2_with fail
        go_ret
        refine ⟨?_, HB2.out⟩
        rfl
    · have hr2 : r = false := by rw [hr]; simp [h]
      subst hr2
      have i1 : (1 : Int) ≤ (o : Int) := by omega
      have i2 : ¬ (o : Int) ≤ 18 := by omega
      have i4 : (22 : Int) ≤ (o : Int) := by omega
      have i5 : ¬ (o : Int) ≤ 25 := by omega
      have i3 : ((o : Int) == 26) = false := by rw [beq_eq_false_iff_ne]; omega
      have i6 : decide ((o : Int) ≤ 18) = false := decide_eq_false i2
      have i7 : decide ((o : Int) ≤ 25) = false := decide_eq_false i5
      clear hr h
      go_enter Try.func98, Try.ntmps98
      go_wp2_with fail
      refine (HR.out _).mono ?_
      rintro e W2 ⟨rfl, hb⟩
      obtain ⟨hk, hb2⟩ := blk_keep hb
      have c0 : W2.cell? ⟨w.heap.size, 0, none⟩ = some (.int .u8 o) := hk 0
      have HB2 := Lib.hid hb2
      clear hb hk hb2
      go_wp2_with fail
      go_ret
      refine ⟨?_, HB2.out⟩
      rfl
set_option maxRecDepth 100000 in
set_option maxHeartbeats 8000000 in
theorem rcond_any (nt : Bool) (o : Nat) (ho : o < 256) (d s n : Int) (w : World) : Calls Try.prog 99 #[.agg #[.bool nt, .int .u8 o, .int .i64 d, .int .i64 s, .int .i64 n]] w fun e w' => e = .returned (.bool (condS ⟨nt, ⟨o, d, s, n⟩⟩)) ∧ Below w.heap.size w w' := by
  have HR := Lib.hid (fun W => rright_any o ho d s n W)
  unfold insV at *
  obtain ⟨r, hr⟩ : ∃ r, r = condS ⟨nt, ⟨o, d, s, n⟩⟩ := ⟨_, rfl⟩
  rw [← hr]
  unfold condS at hr
  simp only [] at hr
  cases hq : rightI o d s n with
  | false =>
    rw [hq] at HR hr
    simp only [Bool.false_eq_true, if_false] at HR
    have hr2 : r = false := by rw [hr]; simp
    subst hr2
    clear hr hq
    go_enter Try.func99, Try.ntmps99
    go_wp2_with fail
    refine (HR.out _).mono ?_
    rintro e W2 ⟨rfl, hb⟩
    obtain ⟨hk, hb2⟩ := blk_keep hb
    have c1 : W2.cell? ⟨w.heap.size, 1, none⟩ = some (.int .u8 o) := hk 1
    have HB2 := Lib.hid hb2
    clear hb hk hb2
    go_wp2_with fail
    go_ret
    refine ⟨?_, HB2.out⟩
    rfl
  | true =>
    rw [hq] at HR hr
    simp only [if_true] at HR
    clear hq
    by_cases h19 : 19 ≤ o
    · have i2 : (19 : Int) ≤ (o : Int) := by omega
      by_cases h21 : o ≤ 21
      · have hr2 : r = true := by rw [hr]; simp [h19, h21]
        have i3 : (o : Int) ≤ 21 := by omega
        subst hr2
        clear hr h19 h21
        go_enter Try.func99, Try.ntmps99
        go_wp2_with fail
        refine (HR.out _).mono ?_
        rintro e W2 ⟨rfl, hb⟩
        obtain ⟨hk, hb2⟩ := blk_keep hb
        have c1 : W2.cell? ⟨w.heap.size, 1, none⟩ = some (.int .u8 o) := hk 1
        have HB2 := Lib.hid hb2
        clear hb hk hb2
        go_wp2_with fail
        go_ret
        refine ⟨?_, HB2.out⟩
        rfl
      · have i3 : ¬ (o : Int) ≤ 21 := by omega
        have hr2 : r = false := by rw [hr]; simp [h21]
        subst hr2
        clear hr h19 h21
        go_enter Try.func99, Try.ntmps99
        go_wp2_with fail
        refine (HR.out _).mono ?_
        rintro e W2 ⟨rfl, hb⟩
        obtain ⟨hk, hb2⟩ := blk_keep hb
        have c1 : W2.cell? ⟨w.heap.size, 1, none⟩ = some (.int .u8 o) := hk 1
        have HB2 := Lib.hid hb2
        clear hb hk hb2
        go_wp2_with fail
        go_ret
        refine ⟨?_, HB2.out⟩
        show Ending.returned (.bool (decide ((o : Int) ≤ 21))) = _; rw [decide_eq_false (show ¬ (o : Int) ≤ 21 by omega)]
    · have i2 : ¬ (19 : Int) ≤ (o : Int) := by omega
      have hr2 : r = false := by rw [hr]; simp [h19]
      subst hr2
      clear hr h19
      go_enter Try.func99, Try.ntmps99
      go_wp2_with fail
      refine (HR.out _).mono ?_
      rintro e W2 ⟨rfl, hb⟩
      obtain ⟨hk, hb2⟩ := blk_keep hb
      have c1 : W2.cell? ⟨w.heap.size, 1, none⟩ = some (.int .u8 o) := hk 1
      have HB2 := Lib.hid hb2
      clear hb hk hb2
      go_wp2_with fail
      go_ret
      refine ⟨?_, HB2.out⟩
      rfl
end Go.Proofs.Ytiadfmhodlbkiaa
namespace Go.Proofs.Ytiadfmhodlbkiaa
open Go.RowKit
set_option linter.unusedSimpArgs false
set_option linter.unusedVariables false
/-- How deep a list is nested, at most one more than m. -/
def depN : Nat → Sts → Nat
  | _, .nil => 0
  | 0, .cons .. => 1
  | m + 1, .cons _ _ _ b e _ r => max (max (depN m b) (depN m e) + 1) (depN (m + 1) r)
theorem depN_nil (m : Nat) : depN m .nil = 0 := by cases m <;> rfl
theorem depN_le : ∀ (m : Nat) (T : Sts), depN m T ≤ m + 1
  | m, .nil => by rw [depN_nil]; omega
  | 0, .cons .. => Nat.le_refl _
  | m + 1, .cons _ _ _ b e _ r => by
    have h1 := depN_le m b
    have h2 := depN_le m e
    have h3 := depN_le (m + 1) r
    show max (max (depN m b) (depN m e) + 1) (depN (m + 1) r) ≤ m + 1 + 1
    omega
theorem depN_dpt : ∀ (lv : Nat) (T : Sts), depN (lv + 1) T ≤ lv ↔ dpt lv T = true
  | lv, .nil => by rw [depN_nil, dpt_nil]; simp
  | 0, .cons k i c b e ln r => by
    show max (max (depN 0 b) (depN 0 e) + 1) (depN 1 r) ≤ 0 ↔ false = true
    constructor
    · intro h; omega
    · intro h; cases h
  | lv + 1, .cons k i c b e ln r => by
    have h1 := depN_dpt lv b
    have h2 := depN_dpt lv e
    have h3 := depN_dpt (lv + 1) r
    show max (max (depN (lv + 1) b) (depN (lv + 1) e) + 1) (depN (lv + 1 + 1) r) ≤ lv + 1 ↔ (dpt lv b && dpt lv e && dpt (lv + 1) r) = true
    rw [Bool.and_eq_true, Bool.and_eq_true, ← h1, ← h2, ← h3]
    omega
def DeR (T : Sts) (m : Nat) (w : World) (s5 s6 : Value) (wr : World) : Prop :=
  ∃ (k d n : Nat), k ≤ T.len ∧ s5 = .int .i64 d ∧ s6 = .int .i64 k ∧ max (d + 1) (depN (m + 1) (Sts.drp k T)) = depN (m + 1) T ∧ d ≤ m + 1 ∧ wr = w.drewN n
theorem Tr.drw {w : World} {S : Nat → Prop} {v : Value} {T : Sts} (h : Tr w S v T) (n : Nat) : Tr (w.drewN n) S v T := h.below (below_drewN' (Below.refl _ _) n)
theorem World.drewN_add (w : World) (a : Nat) : ∀ b : Nat, (w.drewN a).drewN b = w.drewN (a + b)
  | 0 => rfl
  | b + 1 => by
    show ((w.drewN a).drewN b).drew = _
    rw [World.drewN_add w a b]; rfl
set_option maxRecDepth 100000 in
set_option maxHeartbeats 8000000 in
theorem depth_any : ∀ (N : Nat) (T : Sts) (m : Nat) (v : Value) (S : Nat → Prop) (w : World), T.all < N → T.all ≤ 3000 → m ≤ 21 → Tr w S v T →
    Calls Try.prog 83 #[v, .int .i64 m] w fun e w' => e = .returned (.int .i64 (depN m T)) ∧ ∃ n, w' = w.drewN n := by
  intro N
  induction N with
  | zero => intro T m v S w h; exact absurd h (Nat.not_lt_zero _)
  | succ N ih =>
    intro T m v S w hN h3 hm hT
    obtain ⟨A1, c1, rfl, -, -⟩ := hT.frm
    have hlen : T.len ≤ T.all := T.len_all
    by_cases hz : T.len = 0
    · have e0 : ((T.len : Int) == 0) = true := by rw [beq_iff_eq]; omega
      have e1 : depN m T = 0 := by
        cases T with
        | nil => exact depN_nil m
        | cons k i c b e ln r => exact absurd hz (Nat.succ_ne_zero _)
      rw [e1]
      clear ih hN h3 hT hlen hz e1
      go_enter Try.func83, Try.ntmps83
      go_wp2_with fail
      go_ret
      exact ⟨rfl, 0, rfl⟩
    have e0 : ((T.len : Int) == 0) = false := by rw [beq_eq_false_iff_ne]; omega
    cases m with
    | zero =>
      have e1 : depN 0 T = 1 := by
        cases T with
        | nil => exact absurd rfl hz
        | cons k i c b e ln r => rfl
      rw [e1]
      clear ih hN h3 hT hlen hz e1
      go_enter Try.func83, Try.ntmps83
      go_wp2_with fail
      go_ret
      exact ⟨rfl, 0, rfl⟩
    | succ m =>
    have i1 : ¬ ((m + 1 : Nat) : Int) < 1 := by omega
    have hdl := depN_le (m + 1) T
    have hw1 : IntKind.i64.wrap (m : Int) = (m : Int) := by rw [IntKind.wrap_i64]; omega; all_goals omega
    have hpos : max (0 + 1) (depN (m + 1) T) = depN (m + 1) T := by
      cases T with
      | nil => exact absurd rfl hz
      | cons k i c b e ln r =>
        show max (0 + 1) (max (max (depN m b) (depN m e) + 1) (depN (m + 1) r)) = max (max (depN m b) (depN m e) + 1) (depN (m + 1) r)
        omega
    have R0 : DeR T m w (.int .i64 0) (.int .i64 0) w := ⟨0, 0, 0, Nat.zero_le _, rfl, rfl, hpos, Nat.zero_le _, rfl⟩
    have HR0 := Lib.hid R0
    have HT := Lib.hid hT
    have HX := Lib.hid (And.intro hN (And.intro h3 (And.intro hm (And.intro hdl hlen))))
    have IH := Lib.hid ih
    clear R0 hT hN h3 hm hdl hlen ih hpos
    go_enter Try.func83, Try.ntmps83
    go_wp2_with fail
    go_loopw [5, 6] (fun s5 s6 wr => DeR T m w s5 s6 wr) (fun _ s _ => T.len - (intOf s).toNat)
    case atStart => exact HR0.out
    case round =>
      clear HR0
      obtain ⟨k, d, n, hk, rfl, rfl, hmx, hd, hwr⟩ := hrel
      have hTr : Tr wr S (.slice A1 T.len c1) T := hwr ▸ HT.out.drw n
      have HE := Lib.hid (And.intro hmx hd)
      have HTR := Lib.hid hTr
      have HWR := Lib.hid hwr
      clear hmx hd hwr hTr
      by_cases h0 : k < T.len
      · have b1 : (k : Int) < (T.len : Int) := by omega
        have b0 : (0 : Int) ≤ (k : Int) := by omega
        obtain ⟨g, o, vb, ve, rfl, hsg, hg, hbT, heT, hcl⟩ := HTR.out.nth h0
        have hna := Sts.nth_all h0
        have hdr := Sts.drp_nth h0
        obtain ⟨q1, q2⟩ := HE.out
        rw [hdr] at q1
        have fa := hcl 10 (by omega)
        have fb := hcl 11 (by omega)
        simp only [smF] at fa fb
        generalize T.nth k = x at *
        obtain ⟨B1, d1, rfl, -, -⟩ := hbT.frm
        obtain ⟨E1, n1, rfl, -, -⟩ := heT.frm
        have q3 : max (d + 1) (max (max (depN m x.b) (depN m x.e) + 1) (depN (m + 1) (Sts.drp (k + 1) T))) = depN (m + 1) T := q1
        have hkk : IntKind.i64.wrap ((k : Int) + 1) = ((k + 1 : Nat) : Int) := by
          have := HX.out
          rw [IntKind.wrap_i64]; omega; all_goals omega
        have HB := Lib.hid hbT
        have HF := Lib.hid heT
        have Hq := Lib.hid (And.intro q3 q2)
        have HNA := Lib.hid hna
        clear hsg hg hcl hna hdr q1 q2 q3 hbT heT hk
        go_wp2_with fail
        go_quiet (first
          | (go_at_call_of 83 B1; refine Calls.quiet_of (IH.out x.b m _ S _ (by have := HX.out; have := HNA.out; omega) (by have := HX.out; have := HNA.out; omega) (by have := HX.out; omega) (HB.out.drw _)))
          | (go_at_call_of 83 E1; refine Calls.quiet_of (IH.out x.e m _ S _ (by have := HX.out; have := HNA.out; omega) (by have := HX.out; have := HNA.out; omega) (by have := HX.out; omega) (HF.out.drw _))))
        go_wp2_with fail
        go_roundw
        case rel => exact ⟨k + 1, max d (max (depN m x.b) (depN m x.e)), n + nq, by omega, by go_num, rfl, by have := Hq.out.1; omega, by have := Hq.out.2; have := depN_le m x.b; have := depN_le m x.e; omega, by rw [HWR.out]; exact World.drewN_add _ _ _⟩
        case measure => simp [intOf]; omega
      · obtain rfl : k = T.len := by omega
        have b1 : ¬ ((T.len : Int) < (T.len : Int)) := by omega
        obtain ⟨q1, q2⟩ := HE.out
        rw [Sts.drp_len, depN_nil] at q1
        have q3 : depN (m + 1) T = d + 1 := by omega
        have hw2 : IntKind.i64.wrap ((d : Int) + 1) = ((d + 1 : Nat) : Int) := by
          have := HX.out
          rw [IntKind.wrap_i64]; omega; all_goals omega
        have Q3 := Lib.hid q3
        clear q1 q3
        go_wp2_with fail
        go_ret
        exact ⟨by rw [Q3.out]; go_num, n, HWR.out⟩
theorem wrI {x y : Int} (h : -9223372036854775808 ≤ x ∧ x < 9223372036854775808) (e : x = y) : IntKind.i64.wrap x = y := by subst e; rw [IntKind.wrap_i64]; omega; all_goals omega
theorem wrN {x : Int} {n : Nat} (hn : n ≤ 100000) (e : x = (n : Int)) : IntKind.i64.wrap x = (n : Int) := wrI (by omega) e
theorem wrN64 {x : Int} {n : Nat} (hn : n ≤ 100000) (e : x = (n : Int)) : wrap64 x = (n : Int) := by subst e; unfold wrap64; omega
theorem wr64 {x y : Int} (h : -9223372036854775808 ≤ x ∧ x < 9223372036854775808) (e : x = y) : wrap64 x = y := by subst e; unfold wrap64; omega
def CnR (T : Sts) (m : Nat) (w : World) (s5 s6 : Value) (wr : World) : Prop :=
  ∃ (k d n : Nat), k ≤ T.len ∧ s5 = .int .i64 d ∧ s6 = .int .i64 k ∧ d + cnt (m + 1) (Sts.drp k T) = cnt (m + 1) T + (Sts.drp k T).len ∧ wr = w.drewN n
set_option maxRecDepth 100000 in
set_option maxHeartbeats 8000000 in
theorem count_any : ∀ (N : Nat) (T : Sts) (m : Nat) (v : Value) (S : Nat → Prop) (w : World), T.all < N → T.all ≤ 3000 → m ≤ 21 → Tr w S v T →
    Calls Try.prog 97 #[v, .int .i64 m] w fun e w' => e = .returned (.int .i64 (cnt m T)) ∧ ∃ n, w' = w.drewN n := by
  intro N
  induction N with
  | zero => intro T m v S w h; exact absurd h (Nat.not_lt_zero _)
  | succ N ih =>
    intro T m v S w hN h3 hm hT
    obtain ⟨A1, c1, rfl, -, -⟩ := hT.frm
    have hlen : T.len ≤ T.all := T.len_all
    cases m with
    | zero =>
      rw [cnt_zero]
      clear ih hN h3 hT hlen
      go_enter Try.func97, Try.ntmps97
      go_wp2_with fail
      go_ret
      exact ⟨rfl, 0, rfl⟩
    | succ m =>
    have i1 : ¬ ((m + 1 : Nat) : Int) < 1 := by omega
    have hw1 : IntKind.i64.wrap (m : Int) = (m : Int) := by rw [IntKind.wrap_i64]; omega; all_goals omega
    have R0 : CnR T m w (.int .i64 T.len) (.int .i64 0) w := ⟨0, T.len, 0, Nat.zero_le _, rfl, rfl, by show T.len + cnt (m + 1) T = cnt (m + 1) T + T.len; omega, rfl⟩
    have HR0 := Lib.hid R0
    have HT := Lib.hid hT
    have HX := Lib.hid (And.intro hN (And.intro h3 (And.intro hm (And.intro (cnt_all (m + 1) T) hlen))))
    have IH := Lib.hid ih
    clear R0 hT hN h3 hm hlen ih
    go_enter Try.func97, Try.ntmps97
    go_wp2_with fail
    go_loopw [5, 6] (fun s5 s6 wr => CnR T m w s5 s6 wr) (fun _ s _ => T.len - (intOf s).toNat)
    case atStart => exact HR0.out
    case round =>
      clear HR0
      obtain ⟨k, d, n, hk, rfl, rfl, hmx, hwr⟩ := hrel
      have hTr : Tr wr S (.slice A1 T.len c1) T := hwr ▸ HT.out.drw n
      have hdl := Sts.drp_len' hk
      have HE := Lib.hid (And.intro hmx hdl)
      have HTR := Lib.hid hTr
      have HWR := Lib.hid hwr
      clear hmx hwr hTr hdl
      by_cases h0 : k < T.len
      · have b1 : (k : Int) < (T.len : Int) := by omega
        have b0 : (0 : Int) ≤ (k : Int) := by omega
        obtain ⟨g, o, vb, ve, rfl, hsg, hg, hbT, heT, hcl⟩ := HTR.out.nth h0
        have hna := Sts.nth_all h0
        have hdr := Sts.drp_nth h0
        obtain ⟨q1, q2⟩ := HE.out
        rw [hdr] at q1 q2
        have fa := hcl 10 (by omega)
        have fb := hcl 11 (by omega)
        simp only [smF] at fa fb
        generalize T.nth k = x at *
        obtain ⟨B1, d1, rfl, -, -⟩ := hbT.frm
        obtain ⟨E1, n1, rfl, -, -⟩ := heT.frm
        have q3 : d + (1 + cnt m x.b + cnt m x.e + cnt (m + 1) (Sts.drp (k + 1) T)) = cnt (m + 1) T + ((Sts.drp (k + 1) T).len + 1) := q1
        have q4 : (Sts.drp (k + 1) T).len + 1 = T.len - k := q2
        have hxx := HX.out
        have hbe : d + cnt m x.b + cnt m x.e ≤ 100000 := by omega
        have hbd : d + cnt m x.b ≤ 100000 := by omega
        have hbk : k + 1 ≤ 100000 := by omega
        have hw2 : wrap64 ((d : Int) + (cnt m x.b : Int)) = ((d + cnt m x.b : Nat) : Int) := wrN64 hbd (by omega)
        have hkk : IntKind.i64.wrap ((k : Int) + 1) = ((k + 1 : Nat) : Int) := wrN hbk (by omega)
        have hw3 : wrap64 (((d + cnt m x.b : Nat) : Int) + (cnt m x.e : Int)) = ((d + cnt m x.b + cnt m x.e : Nat) : Int) := wrN64 hbe (by omega)
        have HB := Lib.hid hbT
        have HF := Lib.hid heT
        have Hq := Lib.hid q3
        have HNA := Lib.hid hna
        have HW2 := Lib.hid hw2
        have HW3 := Lib.hid hw3
        clear hsg hg hcl hna hdr q1 q2 q3 q4 hbT heT hk hxx hw2 hw3 hbe hbd hbk
        go_wp2_with fail
        go_quiet (first
          | (go_at_call_of 97 B1; refine Calls.quiet_of (IH.out x.b m _ S _ (by have := HX.out; have := HNA.out; omega) (by have := HX.out; have := HNA.out; omega) (by have := HX.out; omega) (HB.out.drw _)))
          | (go_at_call_of 97 E1; refine Calls.quiet_of (IH.out x.e m _ S _ (by have := HX.out; have := HNA.out; omega) (by have := HX.out; have := HNA.out; omega) (by have := HX.out; omega) (HF.out.drw _))))
        go_wp2_with fail
        go_roundw
        case rel => exact ⟨k + 1, d + cnt m x.b + cnt m x.e, n + nq, by omega, (by rw [HW2.out, HW3.out]), by go_num, by have := Hq.out; omega, by rw [HWR.out]; exact World.drewN_add _ _ _⟩
        case measure => simp [intOf]; omega
      · obtain rfl : k = T.len := by omega
        have b1 : ¬ ((T.len : Int) < (T.len : Int)) := by omega
        obtain ⟨q1, q2⟩ := HE.out
        rw [Sts.drp_len, cnt_nil] at q1
        have q3 : d = cnt (m + 1) T := q1
        subst q3
        clear q1 q2 HE
        go_wp2_with fail
        go_ret
        exact ⟨rfl, n, HWR.out⟩
set_option maxRecDepth 100000 in
set_option maxHeartbeats 8000000 in
theorem countT_any (T : Sts) (v : Value) (S : Nat → Prop) (w : World) (h3 : T.all ≤ 3000) (hT : Tr w S v T) :
    Calls Try.prog 84 #[v] w fun e w' => e = .returned (.int .i64 (cnt 20 T)) ∧ ∃ n, w' = w.drewN n := by
  have HC := Lib.hid (count_any (T.all + 1) T 20 v S w (Nat.lt_succ_self _) h3 (by omega) hT)
  clear hT
  go_enter Try.func84, Try.ntmps84
  go_wp2_with fail
  refine HC.out.mono ?_
  rintro e w2 ⟨rfl, n, rfl⟩
  go_wp2_with fail
  go_ret
  exact ⟨rfl, n, rfl⟩
end Go.Proofs.Ytiadfmhodlbkiaa
namespace Go.Proofs.Ytiadfmhodlbkiaa
open Go.RowKit
set_option linter.unusedSimpArgs false
set_option linter.unusedVariables false
/-- Is each statement right, at any depth? -/
def allR (post : Bool) : Sts → Bool
  | .nil => true
  | .cons k i c b e ln r => rightS post ⟨k, i, c, b, e, ln⟩ && allR post b && allR post e && allR post r
theorem allR_alR (post : Bool) : ∀ (lv : Nat) (T : Sts), dpt lv T = true → alR post lv T = allR post T
  | 0, .nil, _ => rfl
  | 0, .cons .., h => by cases h
  | _ + 1, .nil, _ => rfl
  | lv + 1, .cons k i c b e ln r, h => by
    have h' : (dpt lv b && dpt lv e && dpt (lv + 1) r) = true := h
    simp only [Bool.and_eq_true] at h'
    obtain ⟨⟨h1, h2⟩, h3⟩ := h'
    show (rightS post _ && alR post lv b && alR post lv e && alR post (lv + 1) r) = (rightS post _ && allR post b && allR post e && allR post r)
    rw [allR_alR post lv b h1, allR_alR post lv e h2, allR_alR post (lv + 1) r h3]
/-- The zero instruction, in a block. -/
def zIns : Obj := .cells #[.int .u8 0, .int .i64 0, .int .i64 0, .int .i64 0] 70
def EaR (T : Sts) (post : Bool) (w : World) (s6 : Value) (wr : World) : Prop :=
  ∃ k, k ≤ T.len ∧ s6 = .int .i64 k ∧ Below (w.heap.size + 1) (w.alloc zIns) wr ∧ allR post (Sts.drp k T) = allR post T
/-- A statement in a block of its own. -/
theorem stat_alloc (wr : World) (x : StS) (vb ve : Value) : StAt (wr.alloc (.cells #[.int .u8 x.k, .int .u8 x.i.o, .int .i64 x.i.d, .int .i64 x.i.s, .int .i64 x.i.n, .bool x.c.nt, .int .u8 x.c.i.o, .int .i64 x.c.i.d, .int .i64 x.c.i.s, .int .i64 x.c.i.n, vb, ve, .int .i64 x.ln] 75)) wr.heap.size 0 x vb ve := by
  have h1 := heap_alloc_new wr (.cells #[.int .u8 x.k, .int .u8 x.i.o, .int .i64 x.i.d, .int .i64 x.i.s, .int .i64 x.i.n, .bool x.c.nt, .int .u8 x.c.i.o, .int .i64 x.c.i.d, .int .i64 x.c.i.s, .int .i64 x.c.i.n, vb, ve, .int .i64 x.ln] 75)
  refine ⟨by rw [World.size_alloc]; exact Nat.lt_succ_self _, fun m hm => ?_⟩
  rw [Nat.zero_add, cell_of_row _ _ _ _ _ _ h1]
  match m, hm with
  | 0, _ => rfl
  | 1, _ => rfl
  | 2, _ => rfl
  | 3, _ => rfl
  | 4, _ => rfl
  | 5, _ => rfl
  | 6, _ => rfl
  | 7, _ => rfl
  | 8, _ => rfl
  | 9, _ => rfl
  | 10, _ => rfl
  | 11, _ => rfl
  | 12, _ => rfl
theorem zIns_at (w : World) (m : Nat) : (w.alloc zIns).cell? ⟨w.heap.size, m, none⟩ = (#[.int .u8 0, .int .i64 0, .int .i64 0, .int .i64 0] : Array Value)[m]? := cell_of_row _ _ _ _ _ _ (heap_alloc_new w zIns)
theorem bare2 (b e : Nat) : decide (b + e = 0) = (decide (b = 0) && decide (e = 0)) := by
  rw [Bool.eq_iff_iff]; simp
theorem len_eq0 (n : Nat) : ((n : Int) == 0) = decide (n = 0) := by
  rw [Bool.eq_iff_iff]; simp
set_option maxRecDepth 100000 in
set_option maxHeartbeats 8000000 in
theorem each_any (post : Bool) : ∀ (N : Nat) (T : Sts) (v : Value) (S : Nat → Prop) (w : World), T.all < N → T.all ≤ 3000 → T.b8 → Tr w S v T →
    Calls Try.prog 85 #[v, .bool post] w fun e w' => e = .returned (.bool (allR post T)) ∧ Below w.heap.size w w' := by
  intro N
  induction N with
  | zero => intro T v S w h; exact absurd h (Nat.not_lt_zero _)
  | succ N ih =>
    intro T v S w hN h3 h8 hT
    obtain ⟨A1, c1, rfl, -, -⟩ := hT.frm
    have hba : Below w.heap.size w (w.alloc zIns) := (Below.refl _ _).alloc (Nat.le_refl _) _
    have hsz0 : (w.alloc zIns).heap.size = w.heap.size + 1 := World.size_alloc ..
    have R0 : EaR T post w (.int .i64 0) (w.alloc zIns) := ⟨0, Nat.zero_le _, rfl, Below.refl _ _, rfl⟩
    have HR0 := Lib.hid R0
    have HT := Lib.hid hT
    have HBA := Lib.hid (And.intro hba hsz0)
    have HX := Lib.hid (And.intro hN (And.intro h3 (And.intro h8 T.len_all)))
    have IH := Lib.hid ih
    clear R0 hT hN h3 h8 ih hba hsz0
    go_enter Try.func85, Try.ntmps85
    go_wp2_with fail
    go_loopw [6] (fun s6 wr => EaR T post w s6 wr) (fun s _ => T.len - (intOf s).toNat)
    case atStart => exact HR0.out
    case round =>
      clear HR0
      obtain ⟨k, hk, rfl, hbw, hal⟩ := hrel
      have hTr : Tr wr S (.slice A1 T.len c1) T := (HT.out.below HBA.out.1).below (hbw.mono (by have := HBA.out.2; omega))
      by_cases h0 : k < T.len
      · have b1 : (k : Int) < (T.len : Int) := by omega
        have b0 : (0 : Int) ≤ (k : Int) := by omega
        obtain ⟨g, o, vb, ve, rfl, hsg, hg, hbT, heT, hcl⟩ := hTr.nth h0
        have hna := Sts.nth_all h0
        have hdr := Sts.drp_nth h0
        have f0 := hcl 0 (by omega)
        have f1 := hcl 1 (by omega)
        have f2 := hcl 2 (by omega)
        have f3 := hcl 3 (by omega)
        have f4 := hcl 4 (by omega)
        have f5 := hcl 5 (by omega)
        have f6 := hcl 6 (by omega)
        have f7 := hcl 7 (by omega)
        have f8 := hcl 8 (by omega)
        have f9 := hcl 9 (by omega)
        have fa := hcl 10 (by omega)
        have fb := hcl 11 (by omega)
        have fc := hcl 12 (by omega)
        simp only [smF] at f0 f1 f2 f3 f4 f5 f6 f7 f8 f9 fa fb fc
        rw [Nat.add_zero] at f0
        have h8x := Sts.b8_nth HX.out.2.2.1 h0
        generalize T.nth k = x at *
        obtain ⟨B1, d1, rfl, -, -⟩ := hbT.frm
        obtain ⟨E1, n1, rfl, -, -⟩ := heT.frm
        have q1 : (rightS post x && allR post x.b && allR post x.e && allR post (Sts.drp (k + 1) T)) = allR post T := by
          rw [hdr] at hal; exact hal
        have hkk : IntKind.i64.wrap ((k : Int) + 1) = ((k + 1 : Nat) : Int) := wrN (by have := HX.out; omega) (by omega)
        have zz : ∀ m, wr.cell? ⟨w.heap.size, m, none⟩ = (#[.int .u8 0, .int .i64 0, .int .i64 0, .int .i64 0] : Array Value)[m]? := fun m => (hbw.cell (p := ⟨w.heap.size, m, none⟩) (Nat.lt_succ_self _)).trans (zIns_at w m)
        have hzs : w.heap.size < wr.heap.size := by have h1 := hbw.size; have h2 := HBA.out.2; omega
        have HB := Lib.hid hbT
        have HF := Lib.hid heT
        have HBW := Lib.hid hbw
        have HNA := Lib.hid hna
        have HQ := Lib.hid q1
        have H8 := Lib.hid h8x
        have HS0 := Lib.hid (stat_alloc wr x (.slice B1 x.b.len d1) (.slice E1 x.e.len n1))
        have HB0 := Lib.hid ((Below.refl wr.heap.size wr).alloc (Nat.le_refl _) (.cells #[.int .u8 x.k, .int .u8 x.i.o, .int .i64 x.i.d, .int .i64 x.i.s, .int .i64 x.i.n, .bool x.c.nt, .int .u8 x.c.i.o, .int .i64 x.c.i.d, .int .i64 x.c.i.s, .int .i64 x.c.i.n, .slice B1 x.b.len d1, .slice E1 x.e.len n1, .int .i64 x.ln] 75))
        have HZS := Lib.hid hzs
        have HZ := Lib.hid (fun m => (HB0.out.cell (p := ⟨w.heap.size, m, none⟩) hzs).trans (zz m))
        clear hcl hTr hbT heT hbw hna hal hdr q1 h8x zz hzs hsg hg
        go_upto_block 2 with fail
        generalize hwp : wr.alloc (.cells #[.int .u8 x.k, .int .u8 x.i.o, .int .i64 x.i.d, .int .i64 x.i.s, .int .i64 x.i.n, .bool x.c.nt, .int .u8 x.c.i.o, .int .i64 x.c.i.d, .int .i64 x.c.i.s, .int .i64 x.c.i.n, .slice B1 x.b.len d1, .slice E1 x.e.len n1, .int .i64 x.ln] 75) = wp at *
        clear hwp f0 f1 f2 f3 f4 f5 f6 f7 f8 f9 fa fb fc
        go_cut [8] (fun s8 wx => s8 = .bool (rightS post x) ∧ Below wp.heap.size wp wx)
        case first =>
          have HSX := HS0
          have HBX := Lib.hid (Below.refl wp.heap.size wp)
          have d1 := HSX.out.2 1 (by omega)
          have d2 := HSX.out.2 2 (by omega)
          have d3 := HSX.out.2 3 (by omega)
          have d4 := HSX.out.2 4 (by omega)
          have d5 := HSX.out.2 5 (by omega)
          have d6 := HSX.out.2 6 (by omega)
          have d7 := HSX.out.2 7 (by omega)
          have d8 := HSX.out.2 8 (by omega)
          have d9 := HSX.out.2 9 (by omega)
          have da := HSX.out.2 10 (by omega)
          have db := HSX.out.2 11 (by omega)
          simp only [smF, Nat.zero_add] at d1 d2 d3 d4 d5 d6 d7 d8 d9 da db
          have z0 := HZ.out 0
          have z1 := HZ.out 1
          have z2 := HZ.out 2
          have z3 := HZ.out 3
          simp at z0 z1 z2 z3
          have hC := fun W => eqC x.c.nt x.c.i.o x.c.i.d x.c.i.s x.c.i.n W
          have hI := fun W => eqI x.i.o x.i.d x.i.s x.i.n W
          obtain ⟨qc, hqc⟩ : ∃ q, q = decide (x.c = c0) := ⟨_, rfl⟩
          obtain ⟨qi, hqi⟩ : ∃ q, q = decide (x.i = i0) := ⟨_, rfl⟩
          rw [show (⟨x.c.nt, ⟨x.c.i.o, x.c.i.d, x.c.i.s, x.c.i.n⟩⟩ : ConS) = x.c from rfl, ← hqc] at hC
          rw [show (⟨x.i.o, x.i.d, x.i.s, x.i.n⟩ : InsS) = x.i from rfl, ← hqi] at hI
          have y1 := len_eq0 x.b.len
          have y2 := len_eq0 x.e.len
          have HP := Lib.hid (fun W => rplain_any x.i.o H8.out.2.1 x.i.d x.i.s x.i.n post W)
          have HC := Lib.hid (fun W => rcond_any x.c.nt x.c.i.o H8.out.2.2.1 x.c.i.d x.c.i.s x.c.i.n W)
          have hr : rightS post x = if x.k = 1 then decide (x.c = c0) && decide (x.b.len + x.e.len = 0) && plainS x.i post else if x.k = 4 then decide (x.c = c0) && decide (x.b.len + x.e.len = 0) && decide (x.i = i0) else if x.k = 2 ∨ x.k = 3 then decide (x.i = i0) && condS x.c && (decide (x.k = 2) || decide (x.e.len = 0)) else false := rfl
          rw [← hqc, ← hqi, bare2] at hr
          obtain ⟨e1, he1⟩ : ∃ q, q = decide (x.b.len = 0) := ⟨_, rfl⟩
          obtain ⟨e2, he2⟩ : ∃ q, q = decide (x.e.len = 0) := ⟨_, rfl⟩
          rw [← he1, ← he2] at hr
          rw [← he1] at y1
          rw [← he2] at y2
          clear hqc hqi he1 he2
          unfold insV at HP
          generalize hpl : plainS ⟨x.i.o, x.i.d, x.i.s, x.i.n⟩ post = pl at HP
          generalize hcn : condS ⟨x.c.nt, ⟨x.c.i.o, x.c.i.d, x.c.i.s, x.c.i.n⟩⟩ = cn at HC
          rw [show plainS x.i post = pl from hpl, show condS x.c = cn from hcn] at hr
          clear hpl hcn
          by_cases k1 : x.k = 1
          · rw [if_pos k1] at hr
            have i1 : ((x.k : Int) == 1) = true := by rw [k1]; rfl
            have HR := Lib.hid hr
            clear hr k1
            go_wp2_with fail
            refine (HP.out _).mono ?_
            rintro e W2 ⟨rfl, hb2⟩
            have HSX := Lib.hid (HS0.out.below hb2 HS0.out.1)
            have HBX := Lib.hid hb2
            clear d1 d2 d3 d4 d5 d6 d7 d8 d9 da db z0 z1 z2 z3 hb2
            have d1 := HSX.out.2 1 (by omega)
            have d2 := HSX.out.2 2 (by omega)
            have d3 := HSX.out.2 3 (by omega)
            have d4 := HSX.out.2 4 (by omega)
            have d5 := HSX.out.2 5 (by omega)
            have d6 := HSX.out.2 6 (by omega)
            have d7 := HSX.out.2 7 (by omega)
            have d8 := HSX.out.2 8 (by omega)
            have d9 := HSX.out.2 9 (by omega)
            have da := HSX.out.2 10 (by omega)
            have db := HSX.out.2 11 (by omega)
            simp only [smF, Nat.zero_add] at d1 d2 d3 d4 d5 d6 d7 d8 d9 da db
            cases pl
            case false =>
              (go_wp2_with fail
               go_meet
               exact ⟨congrArg Value.bool (by rw [HR.out] <;> simp), HBX.out⟩)
            cases qc
            case false =>
              (go_wp2_with fail
               go_meet
               exact ⟨congrArg Value.bool (by rw [HR.out] <;> simp), HBX.out⟩)
            cases e1
            case false =>
              (go_wp2_with fail
               go_meet
               exact ⟨congrArg Value.bool (by rw [HR.out] <;> simp), HBX.out⟩)
            cases e2
            case false =>
              (go_wp2_with fail
               go_meet
               exact ⟨congrArg Value.bool (by rw [HR.out] <;> simp), HBX.out⟩)
            case true =>
              (go_wp2_with fail
               go_meet
               exact ⟨congrArg Value.bool (by rw [HR.out] <;> simp), HBX.out⟩)
          have i1 : ((x.k : Int) == 1) = false := by rw [beq_eq_false_iff_ne]; omega
          rw [if_neg k1] at hr
          by_cases k2 : x.k = 2
          · rw [if_neg (by omega), if_pos (.inl k2), decide_eq_true k2] at hr
            have i2 : ((x.k : Int) == 2) = true := by rw [k2]; rfl
            have HR := Lib.hid hr
            clear hr k1 k2
            cases qi
            case false =>
              (go_wp2_with fail
               go_meet
               exact ⟨congrArg Value.bool (by rw [HR.out] <;> simp), HBX.out⟩)
            go_wp2_with fail
            refine (HC.out _).mono ?_
            rintro e W2 ⟨rfl, hb2⟩
            have HBX := Lib.hid hb2
            clear d1 d2 d3 d4 d5 d6 d7 d8 d9 da db z0 z1 z2 z3 hb2
            (go_wp2_with fail
             go_meet
             exact ⟨congrArg Value.bool (by rw [HR.out] <;> simp), HBX.out⟩)
          have i2 : ((x.k : Int) == 2) = false := by rw [beq_eq_false_iff_ne]; omega
          by_cases k3 : x.k = 3
          · rw [if_neg (by omega), if_pos (.inr k3), decide_eq_false k2] at hr
            have i3 : ((x.k : Int) == 3) = true := by rw [k3]; rfl
            have HR := Lib.hid hr
            clear hr k1 k2 k3
            cases qi
            case false =>
              (go_wp2_with fail
               go_meet
               exact ⟨congrArg Value.bool (by rw [HR.out] <;> simp), HBX.out⟩)
            go_wp2_with fail
            refine (HC.out _).mono ?_
            rintro e W2 ⟨rfl, hb2⟩
            have HSX := Lib.hid (HS0.out.below hb2 HS0.out.1)
            have HBX := Lib.hid hb2
            clear d1 d2 d3 d4 d5 d6 d7 d8 d9 da db z0 z1 z2 z3 hb2
            have d1 := HSX.out.2 1 (by omega)
            have d2 := HSX.out.2 2 (by omega)
            have d3 := HSX.out.2 3 (by omega)
            have d4 := HSX.out.2 4 (by omega)
            have d5 := HSX.out.2 5 (by omega)
            have d6 := HSX.out.2 6 (by omega)
            have d7 := HSX.out.2 7 (by omega)
            have d8 := HSX.out.2 8 (by omega)
            have d9 := HSX.out.2 9 (by omega)
            have da := HSX.out.2 10 (by omega)
            have db := HSX.out.2 11 (by omega)
            simp only [smF, Nat.zero_add] at d1 d2 d3 d4 d5 d6 d7 d8 d9 da db
            cases cn
            case false =>
              (go_wp2_with fail
               go_meet
               exact ⟨congrArg Value.bool (by rw [HR.out] <;> simp), HBX.out⟩)
            cases e2
            case false =>
              (go_wp2_with fail
               go_meet
               exact ⟨congrArg Value.bool (by rw [HR.out] <;> simp), HBX.out⟩)
            case true =>
              (go_wp2_with fail
               go_meet
               exact ⟨congrArg Value.bool (by rw [HR.out] <;> simp), HBX.out⟩)
          have i3 : ((x.k : Int) == 3) = false := by rw [beq_eq_false_iff_ne]; omega
          by_cases k4 : x.k = 4
          · rw [if_pos k4] at hr
            have i4 : ((x.k : Int) == 4) = true := by rw [k4]; rfl
            have HR := Lib.hid hr
            clear hr k1 k2 k3 k4
            cases qi
            case false =>
              (go_wp2_with fail
               go_meet
               exact ⟨congrArg Value.bool (by rw [HR.out] <;> simp), HBX.out⟩)
            cases qc
            case false =>
              (go_wp2_with fail
               go_meet
               exact ⟨congrArg Value.bool (by rw [HR.out] <;> simp), HBX.out⟩)
            cases e1
            case false =>
              (go_wp2_with fail
               go_meet
               exact ⟨congrArg Value.bool (by rw [HR.out] <;> simp), HBX.out⟩)
            cases e2
            case false =>
              (go_wp2_with fail
               go_meet
               exact ⟨congrArg Value.bool (by rw [HR.out] <;> simp), HBX.out⟩)
            case true =>
              (go_wp2_with fail
               go_meet
               exact ⟨congrArg Value.bool (by rw [HR.out] <;> simp), HBX.out⟩)
          have i4 : ((x.k : Int) == 4) = false := by rw [beq_eq_false_iff_ne]; omega
          rw [if_neg k4, if_neg (by omega)] at hr
          have HR := Lib.hid hr
          clear hr k1 k2 k3 k4
          (go_wp2_with fail
           go_meet
           exact ⟨congrArg Value.bool (by rw [HR.out] <;> simp), HBX.out⟩)
        case rest =>
          obtain ⟨rfl, hbc⟩ := hcut
          have HSC := Lib.hid (HS0.out.below hbc HS0.out.1)
          have HBC := Lib.hid (HB0.out.trans (hbc.mono (Nat.le_of_lt HS0.out.1)))
          have HBS := Lib.hid (HBW.out.trans (HBC.out.mono HZS.out))
          have da := HSC.out.2 10 (by omega)
          have db := HSC.out.2 11 (by omega)
          simp only [smF, Nat.zero_add] at da db
          clear hbc
          generalize rightS post x = r at *
          cases r
          case false =>
            go_wp2_with fail
            go_ret
            exact ⟨by rw [← HQ.out]; simp, HBA.out.1.trans (HBS.out.mono (Nat.le_succ _))⟩
          go_wp2_with fail
          refine (IH.out x.b _ S wc (by have := HX.out; have := HNA.out; omega) (by have := HX.out; have := HNA.out; omega) H8.out.2.2.2.1 (HB.out.below HBC.out)).mono ?_
          rintro e W3 ⟨rfl, hb3⟩
          have db := (hb3.cell (p := ⟨wr.heap.size, 11, none⟩) HSC.out.1).trans db
          have HC3 := Lib.hid (HBC.out.trans (hb3.mono HBC.out.size))
          have HBS3 := Lib.hid (HBW.out.trans (HC3.out.mono HZS.out))
          clear hb3 da
          generalize allR post x.b = r at *
          cases r
          case false =>
            go_wp2_with fail
            go_ret
            exact ⟨by rw [← HQ.out]; simp, HBA.out.1.trans (HBS3.out.mono (Nat.le_succ _))⟩
          go_wp2_with fail
          refine (IH.out x.e _ S W3 (by have := HX.out; have := HNA.out; omega) (by have := HX.out; have := HNA.out; omega) H8.out.2.2.2.2 (HF.out.below HC3.out)).mono ?_
          rintro e W4 ⟨rfl, hb4⟩
          have HC4 := Lib.hid (HC3.out.trans (hb4.mono HC3.out.size))
          have HBS4 := Lib.hid (HBW.out.trans (HC4.out.mono HZS.out))
          clear hb4 db
          generalize allR post x.e = r at *
          cases r
          case false =>
            go_wp2_with fail
            go_ret
            exact ⟨by rw [← HQ.out]; simp, HBA.out.1.trans (HBS4.out.mono (Nat.le_succ _))⟩
          go_wp2_with fail
          go_roundw
          case rel => exact ⟨k + 1, by omega, by go_num, HBS4.out, by have := HQ.out; simpa using this⟩
          case measure => simp [intOf]; omega
      · obtain rfl : k = T.len := by omega
        have b1 : ¬ ((T.len : Int) < (T.len : Int)) := by omega
        rw [Sts.drp_len] at hal
        have HQ := Lib.hid hal
        have HBW := Lib.hid hbw
        clear hal hbw hTr
        go_wp2_with fail
        go_ret
        exact ⟨by rw [← HQ.out]; rfl, HBA.out.1.trans (HBW.out.mono (Nat.le_succ _))⟩
end Go.Proofs.Ytiadfmhodlbkiaa
namespace Go.Proofs.Ytiadfmhodlbkiaa
open Go.RowKit
set_option linter.unusedSimpArgs false
set_option linter.unusedVariables false
theorem rightT_two (post : Bool) (T : Sts) : rightT post T = (decide (depN 21 T ≤ 20) && decide (cnt 20 T ≤ 500) && allR post T) := by
  unfold rightT
  have h1 := depN_dpt 20 T
  by_cases h : dpt 20 T = true
  · rw [h, allR_alR post 20 T h, decide_eq_true (h1.2 h)]
    cases allR post T <;> simp
  · have h2 : ¬ depN 21 T ≤ 20 := fun e => h (h1.1 e)
    rw [decide_eq_false h2]
    have h3 : dpt 20 T = false := by simpa using h
    rw [h3]; simp
set_option maxRecDepth 100000 in
set_option maxHeartbeats 8000000 in
theorem rrightT_any (post : Bool) (T : Sts) (v : Value) (S : Nat → Prop) (w : World) (h8 : T.b8) (hn : T.all ≤ 3000) (hT : Tr w S v T) :
    Calls Try.prog 73 #[v, .bool post] w fun e w' => e = .returned (.bool (rightT post T)) ∧ Below w.heap.size w w' := by
  obtain ⟨A1, c1, rfl, -, -⟩ := hT.frm
  rw [rightT_two]
  have HD := Lib.hid (fun W hw => depth_any (T.all + 1) T 21 (.slice A1 T.len c1) S W (Nat.lt_succ_self _) hn (Nat.le_refl _) hw)
  have HC := Lib.hid (fun W hw => countT_any T (.slice A1 T.len c1) S W hn hw)
  have HE := Lib.hid (fun W hw => each_any post (T.all + 1) T (.slice A1 T.len c1) S W (Nat.lt_succ_self _) hn h8 hw)
  have HT := Lib.hid hT
  clear hT hn h8
  generalize depN 21 T = dn at *
  generalize cnt 20 T = cn at *
  generalize allR post T = ar at *
  by_cases h1 : dn ≤ 20
  · have i1 : (dn : Int) ≤ 20 := by omega
    rw [decide_eq_true h1]
    by_cases h2 : cn ≤ 500
    · have i2 : (cn : Int) ≤ 500 := by omega
      rw [decide_eq_true h2]
      clear h1 h2
      go_enter Try.func73, Try.ntmps73
      go_wp2_with fail
      refine (HD.out _ HT.out).mono ?_
      rintro e w2 ⟨rfl, n, rfl⟩
      go_wp2_with fail
      refine (HC.out _ (HT.out.drw n)).mono ?_
      rintro e w3 ⟨rfl, n3, rfl⟩
      go_wp2_with fail
      refine (HE.out _ (by first | exact (HT.out.drw _) | exact (HT.out.drw _).drw _)).mono ?_
      rintro e w4 ⟨rfl, hb⟩
      have HB := Lib.hid hb
      clear hb
      go_wp2_with fail
      go_ret
      refine ⟨by simp, ?_⟩
      first
        | exact (below_drewN' (Below.refl _ _) _).trans HB.out
        | exact (below_drewN' (below_drewN' (Below.refl _ _) _) _).trans HB.out
    · have i2 : ¬ (cn : Int) ≤ 500 := by omega
      have i3 : decide ((cn : Int) ≤ 500) = false := decide_eq_false i2
      rw [decide_eq_false h2]
      clear h1 h2 HE
      go_enter Try.func73, Try.ntmps73
      go_wp2_with fail
      refine (HD.out _ HT.out).mono ?_
      rintro e w2 ⟨rfl, n, rfl⟩
      go_wp2_with fail
      refine (HC.out _ (HT.out.drw n)).mono ?_
      rintro e w3 ⟨rfl, n3, rfl⟩
      go_wp2_with fail
      go_ret
      refine ⟨by simp, ?_⟩
      first
        | exact below_drewN' (Below.refl _ _) _
        | exact below_drewN' (below_drewN' (Below.refl _ _) _) _
  · have i1 : ¬ (dn : Int) ≤ 20 := by omega
    have i3 : decide ((dn : Int) ≤ 20) = false := decide_eq_false i1
    rw [decide_eq_false h1]
    clear h1 HE HC
    go_enter Try.func73, Try.ntmps73
    go_wp2_with fail
    refine (HD.out _ HT.out).mono ?_
    rintro e w2 ⟨rfl, n, rfl⟩
    go_wp2_with fail
    go_ret
    refine ⟨by simp, ?_⟩
    exact below_drewN' (Below.refl _ _) _
set_option maxRecDepth 100000 in
set_option maxHeartbeats 8000000 in
theorem rconfigT_any (c : CfgS) (vp vc vq : Value) (S : Nat → Prop) (w : World) (hvp : ∃ A n k, vp = .slice A n k) (h8 : c.code.b8 ∧ c.post.b8) (hn : c.code.all ≤ 3000 ∧ c.post.all ≤ 3000) (hc : Tr w S vc c.code) (hq : Tr w S vq c.post) :
    Calls Try.prog 53 #[.agg (cfgA c.h c.m c.ph c.pm vp vc vq c.has)] w fun e w' => e = .returned (.bool (configT c)) ∧ Below w.heap.size w w' := by
  obtain ⟨A1, n1, d1, rfl⟩ := hvp
  obtain ⟨A3, n3, rfl, -, -⟩ := hc.frm
  obtain ⟨A5, n5, rfl, -, -⟩ := hq.frm
  have HC := Lib.hid hc
  have HQ := Lib.hid hq
  have HX := Lib.hid (And.intro h8 hn)
  obtain ⟨z, hz⟩ : ∃ z, z = (decide (c.post.len = 0) && decide (c.ph = 0) && decide (c.pm = 0)) := ⟨_, rfl⟩
  obtain ⟨x1, hx1⟩ : ∃ x, x = rightT false c.code := ⟨_, rfl⟩
  obtain ⟨x2, hx2⟩ : ∃ x, x = rightT true c.post := ⟨_, rfl⟩
  unfold configT
  rw [← hz, ← hx1, ← hx2]
  have H1 := Lib.hid (fun W (hb : Below w.heap.size w W) => hx1 ▸ rrightT_any false c.code _ S W h8.1 hn.1 (hc.below hb))
  have H2 := Lib.hid (fun W (hb : Below w.heap.size w W) => hx2 ▸ rrightT_any true c.post _ S W h8.2 hn.2 (hq.below hb))
  have main : (((c.post.len : Int) == 0) = false ∧ z = false) ∨ (((c.post.len : Int) == 0) = true ∧ (c.ph == 0) = false ∧ z = false) ∨ (((c.post.len : Int) == 0) = true ∧ (c.ph == 0) = true ∧ (c.pm == 0) = false ∧ z = false) ∨ (((c.post.len : Int) == 0) = true ∧ (c.ph == 0) = true ∧ (c.pm == 0) = true ∧ z = true) := by
    rw [hz]
    by_cases h1 : c.post.len = 0
    · have e1 : ((c.post.len : Int) == 0) = true := by rw [h1]; rfl
      by_cases h2 : c.ph = 0
      · by_cases h3 : c.pm = 0
        · simp [h1, h2, h3]
        · simp [h1, h2, h3]
      · simp [h1, h2]
    · have e1 : ((c.post.len : Int) == 0) = false := by rw [beq_eq_false_iff_ne]; omega
      exact .inl ⟨e1, by simp [h1]⟩
  have hb1 : Below w.heap.size w (w.alloc (.cells (cfgA c.h c.m c.ph c.pm (.slice A1 n1 d1) (.slice A3 c.code.len n3) (.slice A5 c.post.len n5) c.has) 25)) := (Below.refl _ _).alloc (Nat.le_refl _) _
  have HB1 := Lib.hid hb1
  have HCR := Lib.hid (cfg_row (heap_alloc_new w (.cells (cfgA c.h c.m c.ph c.pm (.slice A1 n1 d1) (.slice A3 c.code.len n3) (.slice A5 c.post.len n5) c.has) 25)))
  clear hc hq h8 hn HC HQ HX hz hx1 hx2 hb1
  unfold cfgA at *
  generalize c.has = hs at *
  rcases main with ⟨i1, rfl⟩ | ⟨i1, i2, rfl⟩ | ⟨i1, i2, i3, rfl⟩ | ⟨i1, i2, i3, rfl⟩
  all_goals
    go_enter Try.func53, Try.ntmps53
    go_wp2_with fail
    refine (H1.out _ HB1.out).mono ?_
    rintro e w2 ⟨rfl, hb2⟩
    have hr2 := below_row hb2 HCR.out HCR.out.lt
    have HR2 := Lib.hid hr2
    have HB2 := Lib.hid (HB1.out.trans (hb2.mono HB1.out.size))
    have c6 : w2.cell? ⟨w.heap.size, 6, none⟩ = some (.slice A5 c.post.len n5) := hr2.cell (by omega)
    clear hr2 hb2
    cases x1 with
    | false =>
      go_wp2_with fail
      go_ret
      exact ⟨rfl, HB2.out⟩
    | true =>
      go_wp2_with fail
      refine (H2.out _ HB2.out).mono ?_
      rintro e w3 ⟨rfl, hb3⟩
      have hr3 := below_row hb3 HR2.out HR2.out.lt
      have HB3 := Lib.hid (HB2.out.trans (hb3.mono HB2.out.size))
      have c7 : w3.cell? ⟨w.heap.size, 7, none⟩ = some (.bool hs) := hr3.cell (by omega)
      have c6 : w3.cell? ⟨w.heap.size, 6, none⟩ = some (.slice A5 c.post.len n5) := hr3.cell (by omega)
      have c2 : w3.cell? ⟨w.heap.size, 2, none⟩ = some (.int .i64 c.ph) := hr3.cell (by omega)
      have c3 : w3.cell? ⟨w.heap.size, 3, none⟩ = some (.int .i64 c.pm) := hr3.cell (by omega)
      clear hr3 hb3
      cases x2 with
      | false =>
        go_wp2_with fail
        go_ret
        exact ⟨rfl, HB3.out⟩
      | true =>
        cases hs with
        | false =>
          go_wp2_with fail
          go_ret
          exact ⟨rfl, HB3.out⟩
        | true =>
          go_wp2_with fail
          go_ret
          exact ⟨rfl, HB3.out⟩
end Go.Proofs.Ytiadfmhodlbkiaa
