/-
  THE WALKS OF quillpressref11's within, power, most, Places. Conditions: none.
  THE WALKS OF quillpressref11's fields, one. Conditions: none.
  THE WALK OF quillpressref11.one. Conditions: at most sixteen parts ahead.
  THE WALKS OF quillpressref11's Memory, Right. Conditions: the slice reads as parts.
  THE WALK OF quillpressref21.Check. Conditions: the config reads so; an Op is a byte; at most 3000 statements.
-/
import Derived.Test.YtiadfmhodlbkiaaPtW3
import Derived.BigRegion
import Derived.Deep.RegionHeld3
import Derived.Test.YtiadfmhodlbkiaaR19
import Derived.Test.YtiadfmhodlbkiaaChkW
namespace Go.Proofs.Ytiadfmhodlbkiaa
open Go.RowKit
set_option linter.unusedSimpArgs false
set_option linter.unusedVariables false
theorem within_any (n low high : Int) (w : World) : Calls Try.prog 88 #[.int .i64 n, .int .i64 low, .int .i64 high] w fun e w' => e = .returned (.bool (decide (low ≤ n) && decide (n ≤ high))) ∧ w' = w := by
  by_cases h0 : low ≤ n
  · rw [decide_eq_true h0]
    by_cases h1 : n ≤ high
    · rw [decide_eq_true h1]
      go_enter Try.func88, Try.ntmps88
      go_wp2_with fail
      go_ret
      exact ⟨rfl, rfl⟩
    · rw [decide_eq_false h1]
      go_enter Try.func88, Try.ntmps88
      go_wp2_with fail
      go_ret
      refine ⟨?_, rfl⟩
      first
        | rfl
        | (show Ending.returned (.bool (decide (n ≤ high))) = _; rw [decide_eq_false (by omega)]; rfl)
  · rw [decide_eq_false h0]
    go_enter Try.func88, Try.ntmps88
    go_wp2_with fail
    go_ret
    exact ⟨rfl, rfl⟩
theorem pow_step (k : Nat) (h : k < 17) : (2 : Int) ^ (k + 1) = 2 ^ k * 2 := by rw [Int.pow_succ]
def PwR (n : Int) (w : World) (s3 s4 : Value) (wr : World) : Prop := ∃ k : Nat, (k : Int) ≤ n ∧ s3 = .int .i64 (2 ^ k) ∧ s4 = .int .i64 k ∧ wr = w
set_option maxRecDepth 100000 in
set_option maxHeartbeats 8000000 in
theorem power_any (n : Int) (w : World) (h0 : 0 ≤ n) (h16 : n ≤ 16) : Calls Try.prog 101 #[.int .i64 n] w fun e w' => e = .returned (.int .i64 (2 ^ n.toNat)) ∧ w' = w := by
  go_enter Try.func101, Try.ntmps101
  go_wp2_with fail
  go_loopw [3, 4] (fun s3 s4 wr => PwR n w s3 s4 wr) (fun _ s4 _ => n.toNat - (intOf s4).toNat)
  case atStart => exact ⟨0, h0, rfl, rfl, rfl⟩
  case round =>
    obtain ⟨k, hk, rfl, rfl, rfl⟩ := hrel
    by_cases hlt : (k : Int) < n
    · have hp := pow_16 k (by omega)
      have hs := pow_step k (by omega)
      have hw1 := wrapE (x := (2 : Int) ^ k * 2) (by omega)
      have hw2 := wrapE (x := (k : Int) + 1) (by omega)
      rw [← hs] at hw1
      have HS := Lib.hid hs
      clear hs
      go_wp2_with fail
      go_roundw
      case rel => exact ⟨k + 1, by omega, by rw [HS.out] <;> first | rfl | go_num, by go_num, rfl⟩
      case measure => simp [intOf]; omega
    · have hkn : (k : Int) = n := by omega
      have hk2 : n.toNat = k := by omega
      have HK := Lib.hid hk2
      clear hk2 hkn
      go_wp2_with fail
      go_ret
      exact ⟨by rw [HK.out]; rfl, rfl⟩
def mostK (k : Nat) : Int := if k = 2 ∨ k = 3 ∨ k = 4 ∨ k = 6 ∨ k = 8 then 16 else if k = 7 then 12 else if k = 9 then 10 else -1
/-- A kind: one of the nine, or none of them. -/
theorem kinds (k : Nat) : (k = 1 ∨ k = 2 ∨ k = 3 ∨ k = 4 ∨ k = 5 ∨ k = 6 ∨ k = 7 ∨ k = 8 ∨ k = 9) ∨ (((k : Int) == 1) = false ∧ ((k : Int) == 2) = false ∧ ((k : Int) == 3) = false ∧ ((k : Int) == 4) = false ∧ ((k : Int) == 5) = false ∧ ((k : Int) == 6) = false ∧ ((k : Int) == 7) = false ∧ ((k : Int) == 8) = false ∧ ((k : Int) == 9) = false ∧ (k = 0 ∨ 9 < k)) := by
  by_cases h : 1 ≤ k ∧ k ≤ 9
  · left; omega
  · right
    refine ⟨?_, ?_, ?_, ?_, ?_, ?_, ?_, ?_, ?_, by omega⟩
    all_goals
      rw [beq_eq_false_iff_ne]; omega
set_option maxRecDepth 100000 in
set_option maxHeartbeats 8000000 in
theorem most_any (k : Nat) (w : World) : Calls Try.prog 100 #[.int .u8 k] w fun e w' => e = .returned (.int .i64 (mostK k)) ∧ w' = w := by
  rcases kinds k with h | ⟨e1, e2, e3, e4, e5, e6, e7, e8, e9, hn⟩
  · rcases h with rfl | rfl | rfl | rfl | rfl | rfl | rfl | rfl | rfl
    all_goals
      go_enter Try.func100, Try.ntmps100
      go_wp2_with fail
      go_ret
      exact ⟨rfl, rfl⟩
  · have hq : mostK k = -1 := by
      unfold mostK
      rw [if_neg (by omega), if_neg (by omega), if_neg (by omega)]
    rw [hq]
    clear hq hn
    go_enter Try.func100, Try.ntmps100
    go_wp2_with fail
    go_ret
    exact ⟨rfl, rfl⟩
/-- Places, as the document says it. -/
def leastK (k : Nat) : Int := if k = 4 then 4 else 0
def placesK (p : PartS) : Int :=
  if p.size < leastK p.k ∨ mostK p.k < p.size then 0
  else
    let n : Int := 2 ^ p.size.toNat
    if p.k = 3 then n + 256
    else if p.k = 4 then 2 * n
    else if p.k = 7 then (if p.b < 1 ∨ 8 < p.b then 0 else p.b * n)
    else if p.k = 8 then n + 512
    else if p.k = 9 then 32 * n
    else n
theorem placesK_eq (p : PartS) : placesK p = placesP p := by
  obtain ⟨k, size, a, b, c, rate, limit⟩ := p
  rcases kinds k with h | ⟨-, -, -, -, -, -, -, -, -, hn⟩
  · rcases h with rfl | rfl | rfl | rfl | rfl | rfl | rfl | rfl | rfl
    all_goals simp [placesK, placesP, leastK, mostK, rowP, Int.mul_comm]
  · have h1 : mostK k = -1 := by
      unfold mostK
      rw [if_neg (by omega), if_neg (by omega), if_neg (by omega)]
    have h2 : leastK k = 0 := by
      unfold leastK
      rw [if_neg (by omega)]
    have h3 : (rowP k).known = false := by
      unfold rowP
      rw [if_neg (by omega), if_neg (by omega), if_neg (by omega), if_neg (by omega), if_neg (by omega), if_neg (by omega), if_neg (by omega), if_neg (by omega), if_neg (by omega)]
    unfold placesK placesP
    simp only [h1, h2, h3, true_or, if_true]
    rw [if_pos (by omega)]
theorem mostK_16 (k : Nat) : mostK k ≤ 16 := by
  unfold mostK
  repeat' split
  all_goals omega
set_option maxRecDepth 100000 in
set_option maxHeartbeats 8000000 in
theorem rplaces_any (p : PartS) (w : World) : Calls Try.prog 87 #[.agg (ptA p)] w fun e w' => e = .returned (.int .i64 (placesP p)) ∧ Below w.heap.size w w' := by
  rw [← placesK_eq]
  obtain ⟨k, size, a, b, c, rate, limit⟩ := p
  have HB0 := Lib.hid ((Below.refl w.heap.size w).alloc (Nat.le_refl _) (.cells (ptA ⟨k, size, a, b, c, rate, limit⟩) 55))
  obtain ⟨z, hz⟩ : ∃ z, z = placesK ⟨k, size, a, b, c, rate, limit⟩ := ⟨_, rfl⟩
  rw [← hz]
  unfold placesK at hz
  unfold ptA at *
  simp only [] at *
  have HZ := Lib.hid hz
  have hm16 := mostK_16 k
  have hM := Lib.hid hm16
  clear hz hm16
  obtain ⟨wb, hwb⟩ : ∃ wb, wb = (decide (leastK k ≤ size) && decide (size ≤ mostK k)) := ⟨_, rfl⟩
  have main : (((k : Int) == 4) = true ∧ leastK k = 4) ∨ (((k : Int) == 4) = false ∧ leastK k = 0) := by
    by_cases h : k = 4
    · subst h
      exact .inl ⟨rfl, rfl⟩
    · exact .inr ⟨by rw [beq_eq_false_iff_ne]; omega, by unfold leastK; rw [if_neg h]⟩
  rcases main with ⟨e4, hl⟩ | ⟨e4, hl⟩
  · rw [hl] at hwb HZ
    have HWi := Lib.hid (fun W => hwb ▸ within_any size 4 (mostK k) W)
    have HWB := Lib.hid hwb
    clear hwb
    go_enter Try.func87, Try.ntmps87
    go_wp2_with fail
    go_quiet (first
      | (go_at_call 100; exact Calls.quiet_of_same (most_any _ _))
      | (go_at_call 88; exact Calls.quiet_of_same (HWi.out _)))
    have hb2 := below_drewN' HB0.out nq
    generalize hW2 : (w.alloc (.cells #[.int .u8 k, .int .i64 size, .int .i64 a, .int .i64 b, .int .i64 c, .int .i64 rate, .int .i64 limit] 55)).drewN nq = W2 at *
    have q0 : W2.cell? ⟨w.heap.size, 0, none⟩ = some (.int .u8 k) := by rw [← hW2]; exact (cell_of_row _ _ _ _ _ _ (heap_alloc_new w _))
    have q1 : W2.cell? ⟨w.heap.size, 1, none⟩ = some (.int .i64 size) := by rw [← hW2]; exact (cell_of_row _ _ _ _ _ _ (heap_alloc_new w _))
    have q3 : W2.cell? ⟨w.heap.size, 3, none⟩ = some (.int .i64 b) := by rw [← hW2]; exact (cell_of_row _ _ _ _ _ _ (heap_alloc_new w _))
    have HB2 := Lib.hid hb2
    clear hb2 hW2 HB0 HWi
    cases wb with
    | false =>
      have hz := HZ.out
      have hwb := HWB.out
      rw [if_pos (by
        rw [eq_comm, Bool.and_eq_false_iff] at hwb
        rcases hwb with h | h
        · left; have := of_decide_eq_false h; omega
        · right; have := of_decide_eq_false h; omega)] at hz
      subst hz
      clear hwb HWB
      go_wp2_with fail
      go_ret
      exact ⟨rfl, HB2.out⟩
    | true =>
      have hwb := HWB.out
      rw [eq_comm, Bool.and_eq_true, decide_eq_true_eq, decide_eq_true_eq] at hwb
      have hsz : 0 ≤ size ∧ size ≤ 16 := by have := hM.out; omega
      have hz := HZ.out
      rw [if_neg (by omega)] at hz
      have HPw := Lib.hid (fun W => power_any size W hsz.1 hsz.2)
      have hn := pow_16 size.toNat (by omega)
      clear HZ HWB hwb hM hl hsz e4
      generalize (2 : Int) ^ size.toNat = n at *
      have HN := Lib.hid hn
      have HZ3 := Lib.hid hz
      clear hn hz
      go_wp2_with fail
      refine (HPw.out _).mono ?_
      rintro e W3 ⟨rfl, rfl⟩
      clear HPw
      by_cases k3 : k = 3
      · have hz := HZ3.out
        rw [if_pos k3] at hz
        subst k3
        have hw := wrapE (x := n + 256) (by have := HN.out; omega)
        have HZ4 := Lib.hid hz
        clear hz
        go_wp2_with fail
        go_ret
        exact ⟨by rw [HZ4.out]; rfl, HB2.out⟩
      by_cases k4 : k = 4
      · have hz := HZ3.out
        rw [if_neg k3, if_pos k4] at hz
        subst k4
        have hw := wrapE (x := 2 * n) (by have := HN.out; omega)
        have HZ4 := Lib.hid hz
        clear hz
        go_wp2_with fail
        go_ret
        exact ⟨by rw [HZ4.out]; rfl, HB2.out⟩
      by_cases k7 : k = 7
      · have hz := HZ3.out
        rw [if_neg k3, if_neg k4, if_pos k7] at hz
        subst k7
        have HWb := Lib.hid (fun W => within_any b 1 8 W)
        by_cases hb : b < 1
        · rw [if_pos (.inl hb)] at hz
          subst hz
          rw [decide_eq_false (by omega : ¬ 1 ≤ b), Bool.false_and] at HWb
          go_wp2_with fail
          refine (HWb.out _).mono ?_
          rintro e W3 ⟨rfl, rfl⟩
          go_wp2_with fail
          go_ret
          exact ⟨rfl, HB2.out⟩
        · by_cases hb8 : 8 < b
          · rw [if_pos (.inr hb8)] at hz
            subst hz
            rw [decide_eq_false (by omega : ¬ b ≤ 8), Bool.and_false] at HWb
            go_wp2_with fail
            refine (HWb.out _).mono ?_
            rintro e W3 ⟨rfl, rfl⟩
            go_wp2_with fail
            go_ret
            exact ⟨rfl, HB2.out⟩
          · rw [if_neg (by omega)] at hz
            have hw := wrapE (x := b * n) (by
              have hbb : b = 1 ∨ b = 2 ∨ b = 3 ∨ b = 4 ∨ b = 5 ∨ b = 6 ∨ b = 7 ∨ b = 8 := by omega
              have := HN.out
              rcases hbb with hb | hb | hb | hb | hb | hb | hb | hb <;> rw [hb] <;> omega)
            have HZ4 := Lib.hid hz
            rw [decide_eq_true (by omega : 1 ≤ b), decide_eq_true (by omega : b ≤ 8), Bool.and_self] at HWb
            clear hz
            go_wp2_with fail
            refine (HWb.out _).mono ?_
            rintro e W3 ⟨rfl, rfl⟩
            go_wp2_with fail
            go_ret
            exact ⟨by rw [HZ4.out]; rfl, HB2.out⟩
      by_cases k8 : k = 8
      · have hz := HZ3.out
        rw [if_neg k3, if_neg k4, if_neg k7, if_pos k8] at hz
        subst k8
        have hw := wrapE (x := n + 512) (by have := HN.out; omega)
        have HZ4 := Lib.hid hz
        clear hz
        go_wp2_with fail
        go_ret
        exact ⟨by rw [HZ4.out]; rfl, HB2.out⟩
      by_cases k9 : k = 9
      · have hz := HZ3.out
        rw [if_neg k3, if_neg k4, if_neg k7, if_neg k8, if_pos k9] at hz
        subst k9
        have hw := wrapE (x := 32 * n) (by have := HN.out; omega)
        have HZ4 := Lib.hid hz
        clear hz
        go_wp2_with fail
        go_ret
        exact ⟨by rw [HZ4.out]; rfl, HB2.out⟩
      have hz := HZ3.out
      rw [if_neg k3, if_neg k4, if_neg k7, if_neg k8, if_neg k9] at hz
      have e3 : ((k : Int) == 3) = false := by rw [beq_eq_false_iff_ne]; omega
      have e4 : ((k : Int) == 4) = false := by rw [beq_eq_false_iff_ne]; omega
      have e7 : ((k : Int) == 7) = false := by rw [beq_eq_false_iff_ne]; omega
      have e8 : ((k : Int) == 8) = false := by rw [beq_eq_false_iff_ne]; omega
      have e9 : ((k : Int) == 9) = false := by rw [beq_eq_false_iff_ne]; omega
      have HZ4 := Lib.hid hz
      clear hz k3 k4 k7 k8 k9
      go_wp2_with fail
      go_ret
      exact ⟨by rw [HZ4.out]; rfl, HB2.out⟩
  · rw [hl] at hwb HZ
    have HWi := Lib.hid (fun W => hwb ▸ within_any size 0 (mostK k) W)
    have HWB := Lib.hid hwb
    clear hwb
    go_enter Try.func87, Try.ntmps87
    go_wp2_with fail
    go_quiet (first
      | (go_at_call 100; exact Calls.quiet_of_same (most_any _ _))
      | (go_at_call 88; exact Calls.quiet_of_same (HWi.out _)))
    have hb2 := below_drewN' HB0.out nq
    generalize hW2 : (w.alloc (.cells #[.int .u8 k, .int .i64 size, .int .i64 a, .int .i64 b, .int .i64 c, .int .i64 rate, .int .i64 limit] 55)).drewN nq = W2 at *
    have q0 : W2.cell? ⟨w.heap.size, 0, none⟩ = some (.int .u8 k) := by rw [← hW2]; exact (cell_of_row _ _ _ _ _ _ (heap_alloc_new w _))
    have q1 : W2.cell? ⟨w.heap.size, 1, none⟩ = some (.int .i64 size) := by rw [← hW2]; exact (cell_of_row _ _ _ _ _ _ (heap_alloc_new w _))
    have q3 : W2.cell? ⟨w.heap.size, 3, none⟩ = some (.int .i64 b) := by rw [← hW2]; exact (cell_of_row _ _ _ _ _ _ (heap_alloc_new w _))
    have HB2 := Lib.hid hb2
    clear hb2 hW2 HB0 HWi
    cases wb with
    | false =>
      have hz := HZ.out
      have hwb := HWB.out
      rw [if_pos (by
        rw [eq_comm, Bool.and_eq_false_iff] at hwb
        rcases hwb with h | h
        · left; have := of_decide_eq_false h; omega
        · right; have := of_decide_eq_false h; omega)] at hz
      subst hz
      clear hwb HWB
      go_wp2_with fail
      go_ret
      exact ⟨rfl, HB2.out⟩
    | true =>
      have hwb := HWB.out
      rw [eq_comm, Bool.and_eq_true, decide_eq_true_eq, decide_eq_true_eq] at hwb
      have hsz : 0 ≤ size ∧ size ≤ 16 := by have := hM.out; omega
      have hz := HZ.out
      rw [if_neg (by omega)] at hz
      have HPw := Lib.hid (fun W => power_any size W hsz.1 hsz.2)
      have hn := pow_16 size.toNat (by omega)
      clear HZ HWB hwb hM hl hsz e4
      generalize (2 : Int) ^ size.toNat = n at *
      have HN := Lib.hid hn
      have HZ3 := Lib.hid hz
      clear hn hz
      go_wp2_with fail
      refine (HPw.out _).mono ?_
      rintro e W3 ⟨rfl, rfl⟩
      clear HPw
      by_cases k3 : k = 3
      · have hz := HZ3.out
        rw [if_pos k3] at hz
        subst k3
        have hw := wrapE (x := n + 256) (by have := HN.out; omega)
        have HZ4 := Lib.hid hz
        clear hz
        go_wp2_with fail
        go_ret
        exact ⟨by rw [HZ4.out]; rfl, HB2.out⟩
      by_cases k4 : k = 4
      · have hz := HZ3.out
        rw [if_neg k3, if_pos k4] at hz
        subst k4
        have hw := wrapE (x := 2 * n) (by have := HN.out; omega)
        have HZ4 := Lib.hid hz
        clear hz
        go_wp2_with fail
        go_ret
        exact ⟨by rw [HZ4.out]; rfl, HB2.out⟩
      by_cases k7 : k = 7
      · have hz := HZ3.out
        rw [if_neg k3, if_neg k4, if_pos k7] at hz
        subst k7
        have HWb := Lib.hid (fun W => within_any b 1 8 W)
        by_cases hb : b < 1
        · rw [if_pos (.inl hb)] at hz
          subst hz
          rw [decide_eq_false (by omega : ¬ 1 ≤ b), Bool.false_and] at HWb
          go_wp2_with fail
          refine (HWb.out _).mono ?_
          rintro e W3 ⟨rfl, rfl⟩
          go_wp2_with fail
          go_ret
          exact ⟨rfl, HB2.out⟩
        · by_cases hb8 : 8 < b
          · rw [if_pos (.inr hb8)] at hz
            subst hz
            rw [decide_eq_false (by omega : ¬ b ≤ 8), Bool.and_false] at HWb
            go_wp2_with fail
            refine (HWb.out _).mono ?_
            rintro e W3 ⟨rfl, rfl⟩
            go_wp2_with fail
            go_ret
            exact ⟨rfl, HB2.out⟩
          · rw [if_neg (by omega)] at hz
            have hw := wrapE (x := b * n) (by
              have hbb : b = 1 ∨ b = 2 ∨ b = 3 ∨ b = 4 ∨ b = 5 ∨ b = 6 ∨ b = 7 ∨ b = 8 := by omega
              have := HN.out
              rcases hbb with hb | hb | hb | hb | hb | hb | hb | hb <;> rw [hb] <;> omega)
            have HZ4 := Lib.hid hz
            rw [decide_eq_true (by omega : 1 ≤ b), decide_eq_true (by omega : b ≤ 8), Bool.and_self] at HWb
            clear hz
            go_wp2_with fail
            refine (HWb.out _).mono ?_
            rintro e W3 ⟨rfl, rfl⟩
            go_wp2_with fail
            go_ret
            exact ⟨by rw [HZ4.out]; rfl, HB2.out⟩
      by_cases k8 : k = 8
      · have hz := HZ3.out
        rw [if_neg k3, if_neg k4, if_neg k7, if_pos k8] at hz
        subst k8
        have hw := wrapE (x := n + 512) (by have := HN.out; omega)
        have HZ4 := Lib.hid hz
        clear hz
        go_wp2_with fail
        go_ret
        exact ⟨by rw [HZ4.out]; rfl, HB2.out⟩
      by_cases k9 : k = 9
      · have hz := HZ3.out
        rw [if_neg k3, if_neg k4, if_neg k7, if_neg k8, if_pos k9] at hz
        subst k9
        have hw := wrapE (x := 32 * n) (by have := HN.out; omega)
        have HZ4 := Lib.hid hz
        clear hz
        go_wp2_with fail
        go_ret
        exact ⟨by rw [HZ4.out]; rfl, HB2.out⟩
      have hz := HZ3.out
      rw [if_neg k3, if_neg k4, if_neg k7, if_neg k8, if_neg k9] at hz
      have e3 : ((k : Int) == 3) = false := by rw [beq_eq_false_iff_ne]; omega
      have e4 : ((k : Int) == 4) = false := by rw [beq_eq_false_iff_ne]; omega
      have e7 : ((k : Int) == 7) = false := by rw [beq_eq_false_iff_ne]; omega
      have e8 : ((k : Int) == 8) = false := by rw [beq_eq_false_iff_ne]; omega
      have e9 : ((k : Int) == 9) = false := by rw [beq_eq_false_iff_ne]; omega
      have HZ4 := Lib.hid hz
      clear hz k3 k4 k7 k8 k9
      go_wp2_with fail
      go_ret
      exact ⟨by rw [HZ4.out]; rfl, HB2.out⟩
end Go.Proofs.Ytiadfmhodlbkiaa
namespace Go.Proofs.Ytiadfmhodlbkiaa
open Go.RowKit
set_option linter.unusedSimpArgs false
set_option linter.unusedVariables false
/-- A part's fields, but those that its kind does not name are 0. -/
def fieldsP (p : PartS) : PartS :=
  if p.k = 1 then ⟨p.k, 0, 0, 0, p.c, 0, 0⟩
  else if p.k = 2 then ⟨p.k, p.size, 0, 0, 0, 0, p.limit⟩
  else if p.k = 3 ∨ p.k = 4 then ⟨p.k, p.size, 0, 0, 0, 0, 0⟩
  else if p.k = 5 then ⟨p.k, 0, p.a, p.b, p.c, 0, 0⟩
  else if p.k = 6 ∨ p.k = 7 then ⟨p.k, p.size, p.a, p.b, 0, p.rate, 0⟩
  else if p.k = 8 then ⟨p.k, p.size, p.a, 0, 0, 0, 0⟩
  else if p.k = 9 then ⟨p.k, p.size, p.a, 0, 0, 0, p.limit⟩
  else ⟨p.k, 0, 0, 0, 0, 0, 0⟩
theorem part_size : (Try.prog.info? 55).map (·.size) = some 7 := by kernel_rfl
/-- A result that lies in a cell of its own. -/
theorem part_results {fn : Func} {p : Tmp} (h : fn.results = #[.cell p 55]) (tmps : Array Value) (W : World) (b : Nat) (cs : Array Value) (hb : W.heap[b]? = some (.cells cs 55 (0, 0))) (hp : tmps.getD p undef = .pointer (some ⟨b, 0, none⟩)) (hs : cs.size = 7) :
    (results fn tmps).run Try.prog W = .ok (.agg cs) W := by
  have hp' : tmps[p]?.getD undef = .pointer (some ⟨b, 0, none⟩) := by simpa using hp
  simp [results, h, hp', asAddr, run_loadVar_row W b 55 55 _ _ _ hb Try.underlying55 rfl (by rw [hs]; exact part_size)]
theorem three_blk (w : World) (a b c : Obj) : (((w.alloc a).alloc b).alloc c).heap[w.heap.size + 1]? = some b ∧ Below w.heap.size w (((w.alloc a).alloc b).alloc c) := by
  have e1 := World.size_alloc w a
  have e2 := World.size_alloc (w.alloc a) b
  have h1 : Below w.heap.size w (w.alloc a) := (Below.refl _ _).alloc (Nat.le_refl _) _
  have h2 : Below w.heap.size w ((w.alloc a).alloc b) := h1.alloc (by omega) _
  have h3 : Below w.heap.size w (((w.alloc a).alloc b).alloc c) := h2.alloc (by omega) _
  have h4 := heap_alloc_new (w.alloc a) b
  rw [e1] at h4
  have h5 : Below ((w.alloc a).alloc b).heap.size ((w.alloc a).alloc b) (((w.alloc a).alloc b).alloc c) := (Below.refl _ _).alloc (Nat.le_refl _) _
  exact ⟨(h5.block _ (by omega)).trans h4, h3⟩
theorem drew_blk {w : World} {b : Nat} {o : Option Obj} (h : w.heap[b]? = o) : w.drew.heap[b]? = o := h
set_option maxRecDepth 100000 in
set_option maxHeartbeats 8000000 in
theorem rfields_any (p : PartS) (w : World) : Calls Try.prog 86 #[.agg (ptA p)] w fun e w' => e = .returned (.agg (ptA (fieldsP p))) ∧ Below w.heap.size w w' := by
  obtain ⟨k, size, a, b, c, rate, limit⟩ := p
  obtain ⟨r, hr⟩ : ∃ r, r = fieldsP ⟨k, size, a, b, c, rate, limit⟩ := ⟨_, rfl⟩
  rw [← hr]
  unfold fieldsP at hr
  unfold ptA at *
  simp only [] at *
  rcases kinds k with h | ⟨e1, e2, e3, e4, e5, e6, e7, e8, e9, hn⟩
  · rcases h with rfl | rfl | rfl | rfl | rfl | rfl | rfl | rfl | rfl
    all_goals
      subst hr
      go_enter Try.func86, Try.ntmps86
      go_wp2_with fail
      try (go_region; go_wp2_with fail)
      (try simp only [Exit.inBlock, Exit.then])
      refine bodyPost_ret (part_results rfl _ _ (w.heap.size + 1) _ (by first | exact (three_blk w _ _ _).1 | exact drew_blk (three_blk w _ _ _).1) rfl rfl) rfl ?_
      exact ⟨rfl, by first | exact (three_blk w _ _ _).2 | exact (three_blk w _ _ _).2.drew⟩
  · rw [if_neg (by omega), if_neg (by omega), if_neg (by omega), if_neg (by omega), if_neg (by omega), if_neg (by omega), if_neg (by omega)] at hr
    subst hr
    clear hn
    go_enter Try.func86, Try.ntmps86
    go_wp2_with fail
    (try simp only [Exit.inBlock, Exit.then])
    refine bodyPost_ret (part_results rfl _ _ (w.heap.size + 1) _ (three_blk w _ _ _).1 rfl rfl) rfl ?_
    exact ⟨rfl, (three_blk w _ _ _).2⟩
end Go.Proofs.Ytiadfmhodlbkiaa
namespace Go.Proofs.Ytiadfmhodlbkiaa
open Go.RowKit
set_option linter.unusedSimpArgs false
set_option linter.unusedVariables false
def wiN (n lo hi : Int) : Bool := decide (lo ≤ n) && decide (n ≤ hi)
def oneP (p : PartS) (i : Nat) : Bool :=
  if p.k = 1 then wiN p.c (-2047) 2047
  else if p.k = 2 then decide (0 < placesP p) && wiN p.limit 1 1023
  else if p.k = 3 ∨ p.k = 4 then decide (0 < placesP p)
  else if p.k = 5 then wiN p.a 0 (i - 1) && wiN p.b 0 (i - 1) && wiN p.c 0 256
  else if p.k = 6 then decide (0 < placesP p) && wiN p.a 0 (i - 1) && wiN p.b 0 (i - 1) && wiN p.rate 1 64
  else if p.k = 7 then decide (0 < placesP p) && wiN p.a 0 (i - 1) && decide (p.a + p.b ≤ i) && wiN p.rate 1 64
  else if p.k = 8 then decide (0 < placesP p) && wiN p.a 0 (i - 1)
  else if p.k = 9 then decide (0 < placesP p) && wiN p.a 0 (i - 1) && wiN p.limit 1 1023
  else false
theorem pow_pos16 (t : Nat) (h : t < 17) : 0 < (2 : Int) ^ t := by have := pow_16 t h; omega
theorem places_pos (p : PartS) : 0 < placesP p ↔ ((rowP p.k).known = true ∧ (rowP p.k).least ≤ p.size ∧ p.size ≤ (rowP p.k).most ∧ (p.k = 7 → 1 ≤ p.b ∧ p.b ≤ 8)) := by
  have h16 := rowP_16 p.k
  unfold placesP
  by_cases hk : (rowP p.k).known = true
  · by_cases h1 : p.size < (rowP p.k).least
    · rw [if_pos (.inr (.inl h1))]
      constructor
      · intro h; omega
      · intro h; omega
    by_cases h2 : (rowP p.k).most < p.size
    · rw [if_pos (.inr (.inr h2))]
      constructor
      · intro h; omega
      · intro h; omega
    rw [if_neg (by rintro (h | h | h); rw [hk] at h; cases h; exact h1 h; exact h2 h)]
    have hp := pow_pos16 p.size.toNat (by omega)
    generalize (2 : Int) ^ p.size.toNat = n at *
    simp only []
    constructor
    · intro h
      refine ⟨hk, by omega, by omega, fun h7 => ?_⟩
      rw [if_neg (by omega), if_neg (by omega), if_pos h7] at h
      by_cases hb : p.b < 1 ∨ 8 < p.b
      · rw [if_pos hb] at h; omega
      · omega
    · rintro ⟨-, -, -, h7⟩
      by_cases k3 : p.k = 3
      · rw [if_pos k3]; omega
      by_cases k4 : p.k = 4
      · rw [if_neg k3, if_pos k4]; omega
      by_cases k7 : p.k = 7
      · have hb := h7 k7
        rw [if_neg k3, if_neg k4, if_pos k7, if_neg (by omega)]
        exact Int.mul_pos hp (by omega)
      by_cases k8 : p.k = 8
      · rw [if_neg k3, if_neg k4, if_neg k7, if_pos k8]; omega
      by_cases k9 : p.k = 9
      · rw [if_neg k3, if_neg k4, if_neg k7, if_neg k8, if_pos k9]; omega
      rw [if_neg k3, if_neg k4, if_neg k7, if_neg k8, if_neg k9]; omega
  · rw [if_pos (.inl (by simpa using hk))]
    constructor
    · intro h; omega
    · intro h; exact absurd h.1 hk
set_option maxRecDepth 100000 in
set_option maxHeartbeats 8000000 in
theorem one_eq (p : PartS) (i : Nat) : (decide (fieldsP p = p) && oneP p i) = partOk p i := by
  have hp := places_pos p
  obtain ⟨z, hz⟩ : ∃ z, z = decide (0 < placesP p) := ⟨_, rfl⟩
  have hz2 : z = true ↔ 0 < placesP p := by rw [hz, decide_eq_true_eq]
  rw [hp] at hz2
  unfold oneP partOk
  rw [← hz]
  clear hp hz
  obtain ⟨k, size, a, b, c, rate, limit⟩ := p
  rw [Bool.eq_iff_iff]
  rcases kinds k with h | ⟨e1, e2, e3, e4, e5, e6, e7, e8, e9, hn⟩
  · rcases h with rfl | rfl | rfl | rfl | rfl | rfl | rfl | rfl | rfl
    all_goals
      simp [rowP] at hz2
      simp [fieldsP, rowP, inP, wiN, pZ, PartS.mk.injEq, hz2]
      try omega
  · have h3 : (rowP k).known = false := by
      unfold rowP
      rw [if_neg (by omega), if_neg (by omega), if_neg (by omega), if_neg (by omega), if_neg (by omega), if_neg (by omega), if_neg (by omega), if_neg (by omega), if_neg (by omega)]
    simp only [h3, Bool.false_and]
    rw [if_neg (by omega), if_neg (by omega), if_neg (by omega), if_neg (by omega), if_neg (by omega), if_neg (by omega), if_neg (by omega), if_neg (by omega)]
    simp
theorem eqPP (q p : PartS) (W : World) : (binOp .neq 55 (.agg (ptA q)) (.agg (ptA p))).run Try.prog W = .ok (.bool (!decide (q = p))) W := by
  obtain ⟨k, a, b, c, d, e, f⟩ := p
  obtain ⟨k', a', b', c', d', e', f'⟩ := q
  unfold ptA
  have hc : ((k' : Int) = (k : Int)) ↔ (k' = k) := by omega
  go_simp
  by_cases h1 : k' = k <;> by_cases h2 : a' = a <;> by_cases h3 : b' = b <;> by_cases h4 : c' = c <;> by_cases h5 : d' = d <;> by_cases h6 : e' = e <;> by_cases h7 : f' = f <;> simp [hc, h1, h2, h3, h4, h5, h6, h7]
set_option maxRecDepth 100000 in
set_option maxHeartbeats 8000000 in
theorem rone_any (p : PartS) (i : Nat) (hi : i ≤ 16) (w : World) : Calls Try.prog 74 #[.agg (ptA p), .int .i64 i] w fun e w' => e = .returned (.bool (partOk p i)) ∧ Below w.heap.size w w' := by
  rw [← one_eq]
  have hEQ := fun W => eqPP (fieldsP p) p W
  have HF := Lib.hid (fun W => rfields_any p W)
  have HPl := Lib.hid (fun W => rplaces_any p W)
  have hpos := places_pos p
  obtain ⟨f, hf⟩ : ∃ f, f = decide (fieldsP p = p) := ⟨_, rfl⟩
  rw [← hf] at hEQ ⊢
  generalize fieldsP p = q at *
  clear hf
  obtain ⟨z, hz⟩ : ∃ z, z = oneP p i := ⟨_, rfl⟩
  rw [← hz]
  unfold oneP at hz
  generalize placesP p = pl at *
  obtain ⟨k, size, a, b, c, rate, limit⟩ := p
  obtain ⟨qk, qsize, qa, qb, qc, qrate, qlimit⟩ := q
  have HZ := Lib.hid hz
  have HPos := Lib.hid hpos
  clear hz hpos
  unfold ptA at *
  simp only [] at *
  go_enter Try.func74, Try.ntmps74
  go_wp2_with fail
  have hb1 : Below w.heap.size w (w.alloc (.cells #[.int .u8 k, .int .i64 size, .int .i64 a, .int .i64 b, .int .i64 c, .int .i64 rate, .int .i64 limit] 55)) := (Below.refl _ _).alloc (Nat.le_refl _) _
  have hl1 : w.heap.size < (w.alloc (.cells #[.int .u8 k, .int .i64 size, .int .i64 a, .int .i64 b, .int .i64 c, .int .i64 rate, .int .i64 limit] 55)).heap.size := by rw [World.size_alloc]; exact Nat.lt_succ_self _
  generalize hW1 : w.alloc (.cells #[.int .u8 k, .int .i64 size, .int .i64 a, .int .i64 b, .int .i64 c, .int .i64 rate, .int .i64 limit] 55) = W1 at *
  have x0 : W1.cell? ⟨w.heap.size, 0, none⟩ = some (.int .u8 k) := by rw [← hW1]; exact cell_of_row _ _ _ _ _ _ (heap_alloc_new w _)
  have x1 : W1.cell? ⟨w.heap.size, 1, none⟩ = some (.int .i64 size) := by rw [← hW1]; exact cell_of_row _ _ _ _ _ _ (heap_alloc_new w _)
  have x2 : W1.cell? ⟨w.heap.size, 2, none⟩ = some (.int .i64 a) := by rw [← hW1]; exact cell_of_row _ _ _ _ _ _ (heap_alloc_new w _)
  have x3 : W1.cell? ⟨w.heap.size, 3, none⟩ = some (.int .i64 b) := by rw [← hW1]; exact cell_of_row _ _ _ _ _ _ (heap_alloc_new w _)
  have x4 : W1.cell? ⟨w.heap.size, 4, none⟩ = some (.int .i64 c) := by rw [← hW1]; exact cell_of_row _ _ _ _ _ _ (heap_alloc_new w _)
  have x5 : W1.cell? ⟨w.heap.size, 5, none⟩ = some (.int .i64 rate) := by rw [← hW1]; exact cell_of_row _ _ _ _ _ _ (heap_alloc_new w _)
  have x6 : W1.cell? ⟨w.heap.size, 6, none⟩ = some (.int .i64 limit) := by rw [← hW1]; exact cell_of_row _ _ _ _ _ _ (heap_alloc_new w _)
  have HB1 := Lib.hid hb1
  have HLT := Lib.hid hl1
  have X := Lib.hid (And.intro x0 (And.intro x1 (And.intro x2 (And.intro x3 (And.intro x4 (And.intro x5 x6))))))
  clear hb1 hl1 hW1
  go_region_held3 (fun W => W.cell? ⟨w.heap.size, 0, none⟩ = some (.int .u8 k) ∧ W.cell? ⟨w.heap.size, 1, none⟩ = some (.int .i64 size) ∧ W.cell? ⟨w.heap.size, 2, none⟩ = some (.int .i64 a) ∧ W.cell? ⟨w.heap.size, 3, none⟩ = some (.int .i64 b) ∧ W.cell? ⟨w.heap.size, 4, none⟩ = some (.int .i64 c) ∧ W.cell? ⟨w.heap.size, 5, none⟩ = some (.int .i64 rate) ∧ W.cell? ⟨w.heap.size, 6, none⟩ = some (.int .i64 limit))
    (first
      | exact ⟨x0, x1, x2, x3, x4, x5, x6⟩
      | exact ⟨(HB2.out.cell (p := ⟨w.heap.size, 0, none⟩) HLT.out).trans X.out.1, (HB2.out.cell (p := ⟨w.heap.size, 1, none⟩) HLT.out).trans X.out.2.1, (HB2.out.cell (p := ⟨w.heap.size, 2, none⟩) HLT.out).trans X.out.2.2.1, (HB2.out.cell (p := ⟨w.heap.size, 3, none⟩) HLT.out).trans X.out.2.2.2.1, (HB2.out.cell (p := ⟨w.heap.size, 4, none⟩) HLT.out).trans X.out.2.2.2.2.1, (HB2.out.cell (p := ⟨w.heap.size, 5, none⟩) HLT.out).trans X.out.2.2.2.2.2.1, (HB2.out.cell (p := ⟨w.heap.size, 6, none⟩) HLT.out).trans X.out.2.2.2.2.2.2⟩
      | go_keep)
    (first
      | (go_at_call 86; (refine (HF.out _).mono ?_); rintro e w2 ⟨rfl, hb2⟩
         have HB2 : Hid (Below W1.heap.size W1 w2) := (below_drewN' (Below.refl _ _) 1).trans hb2
         clear hb2))
  cases f
  case false =>
    go_wp2_with fail
    go_ret
    exact ⟨by simp, HB1.out.trans (HB2.out.mono HB1.out.size)⟩
  obtain ⟨sz, hpd⟩ : ∃ sz, decide (0 < pl) = sz := ⟨_, rfl⟩
  have hsz : sz = true ↔ 0 < pl := by rw [← hpd, decide_eq_true_eq]
  have hz := HZ.out
  have hpos := HPos.out
  rw [hpd] at hz
  rw [← hsz] at hpos
  have HZ := Lib.hid hz
  have HPos := Lib.hid hpos
  clear hz hpos hsz
  go_wp2_with fail
  refine (HPl.out _).mono ?_
  rintro e W3 ⟨rfl, hb3⟩
  have HB3 := Lib.hid (HB2.out.trans (hb3.mono HB2.out.size))
  have y0 : W3.cell? ⟨w.heap.size, 0, none⟩ = some (.int .u8 k) := (HB3.out.cell (p := ⟨w.heap.size, 0, none⟩) HLT.out).trans X.out.1
  have y1 : W3.cell? ⟨w.heap.size, 1, none⟩ = some (.int .i64 size) := (HB3.out.cell (p := ⟨w.heap.size, 1, none⟩) HLT.out).trans X.out.2.1
  have y2 : W3.cell? ⟨w.heap.size, 2, none⟩ = some (.int .i64 a) := (HB3.out.cell (p := ⟨w.heap.size, 2, none⟩) HLT.out).trans X.out.2.2.1
  have y3 : W3.cell? ⟨w.heap.size, 3, none⟩ = some (.int .i64 b) := (HB3.out.cell (p := ⟨w.heap.size, 3, none⟩) HLT.out).trans X.out.2.2.2.1
  have y4 : W3.cell? ⟨w.heap.size, 4, none⟩ = some (.int .i64 c) := (HB3.out.cell (p := ⟨w.heap.size, 4, none⟩) HLT.out).trans X.out.2.2.2.2.1
  have y5 : W3.cell? ⟨w.heap.size, 5, none⟩ = some (.int .i64 rate) := (HB3.out.cell (p := ⟨w.heap.size, 5, none⟩) HLT.out).trans X.out.2.2.2.2.2.1
  have y6 : W3.cell? ⟨w.heap.size, 6, none⟩ = some (.int .i64 limit) := (HB3.out.cell (p := ⟨w.heap.size, 6, none⟩) HLT.out).trans X.out.2.2.2.2.2.2
  have HBE := Lib.hid (HB1.out.trans (HB3.out.mono HB1.out.size))
  have hw1 := wrapE (x := (i : Int) - 1) (by omega)
  clear hb3 x0 x1 x2 x3 x4 x5 x6 HB2 HB3 X hEQ
  rcases kinds k with h | ⟨e1, e2, e3, e4, e5, e6, e7, e8, e9, hn⟩
  · rcases h with rfl | rfl | rfl | rfl | rfl | rfl | rfl | rfl | rfl
    · have hz := HZ.out
      have hp := HPos.out
      rw [if_pos (by omega)] at hz
      obtain ⟨b1, hb1⟩ : ∃ q, q = wiN c (-2047) 2047 := ⟨_, rfl⟩
      rw [← hb1] at hz
      have Hb1 : Hid (∀ W, Calls Try.prog 88 #[.int .i64 c, .int .i64 (-2047), .int .i64 2047] W fun e w' => e = .returned (.bool b1) ∧ w' = W) := Lib.hid (fun W => by rw [hb1]; exact within_any c (-2047) 2047 W)
      have HQb1 := Lib.hid hb1
      clear hb1
      have HZ4 := Lib.hid hz
      have HP4 := Lib.hid hp
      clear hz hp HZ HPos HF HPl
      go_wp2_with fail
      refine (Hb1.out _).mono ?_
      rintro e W4 ⟨rfl, rfl⟩
      go_wp2_with fail
      go_ret
      exact ⟨by rw [HZ4.out] <;> simp, HBE.out⟩
    · have hz := HZ.out
      have hp := HPos.out
      rw [if_neg (by omega), if_pos (by omega)] at hz
      obtain ⟨b1, hb1⟩ : ∃ q, q = wiN limit 1 1023 := ⟨_, rfl⟩
      rw [← hb1] at hz
      have Hb1 : Hid (∀ W, Calls Try.prog 88 #[.int .i64 limit, .int .i64 1, .int .i64 1023] W fun e w' => e = .returned (.bool b1) ∧ w' = W) := Lib.hid (fun W => by rw [hb1]; exact within_any limit 1 1023 W)
      have HQb1 := Lib.hid hb1
      clear hb1
      have HZ4 := Lib.hid hz
      have HP4 := Lib.hid hp
      clear hz hp HZ HPos HF HPl
      cases sz
      case false =>
        go_wp2_with fail
        go_ret
        exact ⟨by rw [HZ4.out] <;> simp, HBE.out⟩
      go_wp2_with fail
      refine (Hb1.out _).mono ?_
      rintro e W4 ⟨rfl, rfl⟩
      go_wp2_with fail
      go_ret
      exact ⟨by rw [HZ4.out] <;> simp, HBE.out⟩
    · have hz := HZ.out
      have hp := HPos.out
      rw [if_neg (by omega), if_neg (by omega), if_pos (by omega)] at hz
      have HZ4 := Lib.hid hz
      have HP4 := Lib.hid hp
      clear hz hp HZ HPos HF HPl
      cases sz
      case false =>
        go_wp2_with fail
        go_ret
        exact ⟨by rw [HZ4.out] <;> simp, HBE.out⟩
      go_wp2_with fail
      go_ret
      exact ⟨by rw [HZ4.out] <;> simp, HBE.out⟩
    · have hz := HZ.out
      have hp := HPos.out
      rw [if_neg (by omega), if_neg (by omega), if_pos (by omega)] at hz
      have HZ4 := Lib.hid hz
      have HP4 := Lib.hid hp
      clear hz hp HZ HPos HF HPl
      cases sz
      case false =>
        go_wp2_with fail
        go_ret
        exact ⟨by rw [HZ4.out] <;> simp, HBE.out⟩
      go_wp2_with fail
      go_ret
      exact ⟨by rw [HZ4.out] <;> simp, HBE.out⟩
    · have hz := HZ.out
      have hp := HPos.out
      rw [if_neg (by omega), if_neg (by omega), if_neg (by omega), if_pos (by omega)] at hz
      obtain ⟨b1, hb1⟩ : ∃ q, q = wiN a 0 ((i : Int) - 1) := ⟨_, rfl⟩
      rw [← hb1] at hz
      have Hb1 : Hid (∀ W, Calls Try.prog 88 #[.int .i64 a, .int .i64 0, .int .i64 ((i : Int) - 1)] W fun e w' => e = .returned (.bool b1) ∧ w' = W) := Lib.hid (fun W => by rw [hb1]; exact within_any a 0 ((i : Int) - 1) W)
      have HQb1 := Lib.hid hb1
      clear hb1
      obtain ⟨b2, hb2⟩ : ∃ q, q = wiN b 0 ((i : Int) - 1) := ⟨_, rfl⟩
      rw [← hb2] at hz
      have Hb2 : Hid (∀ W, Calls Try.prog 88 #[.int .i64 b, .int .i64 0, .int .i64 ((i : Int) - 1)] W fun e w' => e = .returned (.bool b2) ∧ w' = W) := Lib.hid (fun W => by rw [hb2]; exact within_any b 0 ((i : Int) - 1) W)
      have HQb2 := Lib.hid hb2
      clear hb2
      obtain ⟨b3, hb3⟩ : ∃ q, q = wiN c 0 256 := ⟨_, rfl⟩
      rw [← hb3] at hz
      have Hb3 : Hid (∀ W, Calls Try.prog 88 #[.int .i64 c, .int .i64 0, .int .i64 256] W fun e w' => e = .returned (.bool b3) ∧ w' = W) := Lib.hid (fun W => by rw [hb3]; exact within_any c 0 256 W)
      have HQb3 := Lib.hid hb3
      clear hb3
      have HZ4 := Lib.hid hz
      have HP4 := Lib.hid hp
      clear hz hp HZ HPos HF HPl
      go_wp2_with fail
      refine (Hb1.out _).mono ?_
      rintro e W4 ⟨rfl, rfl⟩
      cases b1
      case false =>
        go_wp2_with fail
        go_ret
        exact ⟨by rw [HZ4.out] <;> simp, HBE.out⟩
      go_wp2_with fail
      refine (Hb2.out _).mono ?_
      rintro e W4 ⟨rfl, rfl⟩
      cases b2
      case false =>
        go_wp2_with fail
        go_ret
        exact ⟨by rw [HZ4.out] <;> simp, HBE.out⟩
      go_wp2_with fail
      refine (Hb3.out _).mono ?_
      rintro e W4 ⟨rfl, rfl⟩
      go_wp2_with fail
      go_ret
      exact ⟨by rw [HZ4.out] <;> simp, HBE.out⟩
    · have hz := HZ.out
      have hp := HPos.out
      rw [if_neg (by omega), if_neg (by omega), if_neg (by omega), if_neg (by omega), if_pos (by omega)] at hz
      obtain ⟨b1, hb1⟩ : ∃ q, q = wiN a 0 ((i : Int) - 1) := ⟨_, rfl⟩
      rw [← hb1] at hz
      have Hb1 : Hid (∀ W, Calls Try.prog 88 #[.int .i64 a, .int .i64 0, .int .i64 ((i : Int) - 1)] W fun e w' => e = .returned (.bool b1) ∧ w' = W) := Lib.hid (fun W => by rw [hb1]; exact within_any a 0 ((i : Int) - 1) W)
      have HQb1 := Lib.hid hb1
      clear hb1
      obtain ⟨b2, hb2⟩ : ∃ q, q = wiN b 0 ((i : Int) - 1) := ⟨_, rfl⟩
      rw [← hb2] at hz
      have Hb2 : Hid (∀ W, Calls Try.prog 88 #[.int .i64 b, .int .i64 0, .int .i64 ((i : Int) - 1)] W fun e w' => e = .returned (.bool b2) ∧ w' = W) := Lib.hid (fun W => by rw [hb2]; exact within_any b 0 ((i : Int) - 1) W)
      have HQb2 := Lib.hid hb2
      clear hb2
      obtain ⟨b3, hb3⟩ : ∃ q, q = wiN rate 1 64 := ⟨_, rfl⟩
      rw [← hb3] at hz
      have Hb3 : Hid (∀ W, Calls Try.prog 88 #[.int .i64 rate, .int .i64 1, .int .i64 64] W fun e w' => e = .returned (.bool b3) ∧ w' = W) := Lib.hid (fun W => by rw [hb3]; exact within_any rate 1 64 W)
      have HQb3 := Lib.hid hb3
      clear hb3
      have HZ4 := Lib.hid hz
      have HP4 := Lib.hid hp
      clear hz hp HZ HPos HF HPl
      cases sz
      case false =>
        go_wp2_with fail
        go_ret
        exact ⟨by rw [HZ4.out] <;> simp, HBE.out⟩
      go_wp2_with fail
      refine (Hb1.out _).mono ?_
      rintro e W4 ⟨rfl, rfl⟩
      cases b1
      case false =>
        go_wp2_with fail
        go_ret
        exact ⟨by rw [HZ4.out] <;> simp, HBE.out⟩
      go_wp2_with fail
      refine (Hb2.out _).mono ?_
      rintro e W4 ⟨rfl, rfl⟩
      cases b2
      case false =>
        go_wp2_with fail
        go_ret
        exact ⟨by rw [HZ4.out] <;> simp, HBE.out⟩
      go_wp2_with fail
      refine (Hb3.out _).mono ?_
      rintro e W4 ⟨rfl, rfl⟩
      go_wp2_with fail
      go_ret
      exact ⟨by rw [HZ4.out] <;> simp, HBE.out⟩
    · have hz := HZ.out
      have hp := HPos.out
      rw [if_neg (by omega), if_neg (by omega), if_neg (by omega), if_neg (by omega), if_neg (by omega), if_pos (by omega)] at hz
      obtain ⟨b1, hb1⟩ : ∃ q, q = wiN a 0 ((i : Int) - 1) := ⟨_, rfl⟩
      rw [← hb1] at hz
      have Hb1 : Hid (∀ W, Calls Try.prog 88 #[.int .i64 a, .int .i64 0, .int .i64 ((i : Int) - 1)] W fun e w' => e = .returned (.bool b1) ∧ w' = W) := Lib.hid (fun W => by rw [hb1]; exact within_any a 0 ((i : Int) - 1) W)
      have HQb1 := Lib.hid hb1
      clear hb1
      obtain ⟨b3, hb3⟩ : ∃ q, q = wiN rate 1 64 := ⟨_, rfl⟩
      rw [← hb3] at hz
      have Hb3 : Hid (∀ W, Calls Try.prog 88 #[.int .i64 rate, .int .i64 1, .int .i64 64] W fun e w' => e = .returned (.bool b3) ∧ w' = W) := Lib.hid (fun W => by rw [hb3]; exact within_any rate 1 64 W)
      have HQb3 := Lib.hid hb3
      clear hb3
      have HZ4 := Lib.hid hz
      have HP4 := Lib.hid hp
      clear hz hp HZ HPos HF HPl
      cases sz
      case false =>
        go_wp2_with fail
        go_ret
        exact ⟨by rw [HZ4.out] <;> simp, HBE.out⟩
      go_wp2_with fail
      refine (Hb1.out _).mono ?_
      rintro e W4 ⟨rfl, rfl⟩
      cases b1
      case false =>
        go_wp2_with fail
        go_ret
        exact ⟨by rw [HZ4.out] <;> simp, HBE.out⟩
      have hba := HQb1.out
      have hpp := HP4.out
      have hb8 : 1 ≤ b ∧ b ≤ 8 := ((hpp.1 (by first | trivial | rfl)).2.2.2 (by first | trivial | rfl))
      have ha16 : 0 ≤ a ∧ a ≤ (i : Int) - 1 := by unfold wiN at hba; simpa using hba.symm
      have hw2 := wrapE (x := a + b) (by omega)
      clear hba hpp hb8 ha16 HP4 HQb1
      by_cases hab : a + b ≤ (i : Int)
      case neg =>
        have hd := decide_eq_false hab
        have hz := HZ4.out
        rw [hd] at hz
        have HZ4 := Lib.hid hz
        clear hz
        go_wp2_with fail
        go_ret
        exact ⟨by rw [HZ4.out] <;> simp, HBE.out⟩
      have hz := HZ4.out
      rw [decide_eq_true hab] at hz
      have HZ4 := Lib.hid hz
      clear hz
      go_wp2_with fail
      refine (Hb3.out _).mono ?_
      rintro e W4 ⟨rfl, rfl⟩
      go_wp2_with fail
      go_ret
      exact ⟨by rw [HZ4.out] <;> simp, HBE.out⟩
    · have hz := HZ.out
      have hp := HPos.out
      rw [if_neg (by omega), if_neg (by omega), if_neg (by omega), if_neg (by omega), if_neg (by omega), if_neg (by omega), if_pos (by omega)] at hz
      obtain ⟨b1, hb1⟩ : ∃ q, q = wiN a 0 ((i : Int) - 1) := ⟨_, rfl⟩
      rw [← hb1] at hz
      have Hb1 : Hid (∀ W, Calls Try.prog 88 #[.int .i64 a, .int .i64 0, .int .i64 ((i : Int) - 1)] W fun e w' => e = .returned (.bool b1) ∧ w' = W) := Lib.hid (fun W => by rw [hb1]; exact within_any a 0 ((i : Int) - 1) W)
      have HQb1 := Lib.hid hb1
      clear hb1
      have HZ4 := Lib.hid hz
      have HP4 := Lib.hid hp
      clear hz hp HZ HPos HF HPl
      cases sz
      case false =>
        go_wp2_with fail
        go_ret
        exact ⟨by rw [HZ4.out] <;> simp, HBE.out⟩
      go_wp2_with fail
      refine (Hb1.out _).mono ?_
      rintro e W4 ⟨rfl, rfl⟩
      go_wp2_with fail
      go_ret
      exact ⟨by rw [HZ4.out] <;> simp, HBE.out⟩
    · have hz := HZ.out
      have hp := HPos.out
      rw [if_neg (by omega), if_neg (by omega), if_neg (by omega), if_neg (by omega), if_neg (by omega), if_neg (by omega), if_neg (by omega), if_pos (by omega)] at hz
      obtain ⟨b1, hb1⟩ : ∃ q, q = wiN a 0 ((i : Int) - 1) := ⟨_, rfl⟩
      rw [← hb1] at hz
      have Hb1 : Hid (∀ W, Calls Try.prog 88 #[.int .i64 a, .int .i64 0, .int .i64 ((i : Int) - 1)] W fun e w' => e = .returned (.bool b1) ∧ w' = W) := Lib.hid (fun W => by rw [hb1]; exact within_any a 0 ((i : Int) - 1) W)
      have HQb1 := Lib.hid hb1
      clear hb1
      obtain ⟨b2, hb2⟩ : ∃ q, q = wiN limit 1 1023 := ⟨_, rfl⟩
      rw [← hb2] at hz
      have Hb2 : Hid (∀ W, Calls Try.prog 88 #[.int .i64 limit, .int .i64 1, .int .i64 1023] W fun e w' => e = .returned (.bool b2) ∧ w' = W) := Lib.hid (fun W => by rw [hb2]; exact within_any limit 1 1023 W)
      have HQb2 := Lib.hid hb2
      clear hb2
      have HZ4 := Lib.hid hz
      have HP4 := Lib.hid hp
      clear hz hp HZ HPos HF HPl
      cases sz
      case false =>
        go_wp2_with fail
        go_ret
        exact ⟨by rw [HZ4.out] <;> simp, HBE.out⟩
      go_wp2_with fail
      refine (Hb1.out _).mono ?_
      rintro e W4 ⟨rfl, rfl⟩
      cases b1
      case false =>
        go_wp2_with fail
        go_ret
        exact ⟨by rw [HZ4.out] <;> simp, HBE.out⟩
      go_wp2_with fail
      refine (Hb2.out _).mono ?_
      rintro e W4 ⟨rfl, rfl⟩
      go_wp2_with fail
      go_ret
      exact ⟨by rw [HZ4.out] <;> simp, HBE.out⟩
  · have hz := HZ.out
    rw [if_neg (by omega), if_neg (by omega), if_neg (by omega), if_neg (by omega), if_neg (by omega), if_neg (by omega), if_neg (by omega), if_neg (by omega)] at hz
    have HZ4 := Lib.hid hz
    clear hz HZ HPos HF HPl hpd hn
    go_wp2_with fail
    go_ret
    exact ⟨by rw [HZ4.out] <;> simp, HBE.out⟩
end Go.Proofs.Ytiadfmhodlbkiaa
namespace Go.Proofs.Ytiadfmhodlbkiaa
open Go.RowKit
set_option linter.unusedSimpArgs false
set_option linter.unusedVariables false
def RMmR (l : List PartS) (w : World) (s3 s8 : Value) (wr : World) : Prop := ∃ (k : Nat) (a : Int), k ≤ l.length ∧ s3 = .int .i64 a ∧ s8 = .int .i64 k ∧ 0 ≤ a ∧ a ≤ k * 4194304 ∧ a + memP (l.drop k) = memP l ∧ Below w.heap.size w wr
set_option maxRecDepth 100000 in
set_option maxHeartbeats 8000000 in
theorem rmemory_any (l : List PartS) (v : Value) (S : Nat → Prop) (w : World) (hl : l.length ≤ 1000) (hp : PrT w S v l) : Calls Try.prog 75 #[v] w fun e w' => e = .returned (.int .i64 (memP l)) ∧ Below w.heap.size w w' := by
  obtain ⟨A, c, rfl⟩ := hp.form
  have HP := Lib.hid hp
  have HL := Lib.hid hl
  clear hp hl
  go_enter Try.func75, Try.ntmps75
  go_wp2_with fail
  go_loopw [3, 4] (fun s3 s8 wr => RMmR l w s3 s8 wr) (fun _ s8 _ => l.length - (intOf s8).toNat)
  case atStart => exact ⟨0, 0, Nat.zero_le _, rfl, rfl, Int.le_refl _, by simp, by simp, Below.refl _ _⟩
  case round =>
    obtain ⟨k, a, hk, rfl, rfl, ha0, ha1, hm, hb⟩ := hrel
    have HB := Lib.hid hb
    by_cases e0 : k < l.length
    · have b1 : (k : Int) < (l.length : Int) := by omega
      rw [memP_drop e0] at hm
      obtain ⟨g, o, rfl, hg, hc⟩ := (HP.out.below HB.out).nth e0
      have x0 := hc 0 (by omega)
      have x1 := hc 1 (by omega)
      have x2 := hc 2 (by omega)
      have x3 := hc 3 (by omega)
      have x4 := hc 4 (by omega)
      have x5 := hc 5 (by omega)
      have x6 := hc 6 (by omega)
      simp only [ptF] at x0 x1 x2 x3 x4 x5 x6
      rw [Nat.add_zero] at x0
      generalize l[k] = p at *
      have hpl := places_le p
      have hw1 := wrapE (x := (k : Int) + 1) (by have := HL.out; omega)
      have hw2 := wrapE (x := a + placesP p) (by have := HL.out; omega)
      have HM := Lib.hid (And.intro ha0 (And.intro ha1 (And.intro hm hpl)))
      have HPA := Lib.hid (rplaces_any p)
      clear hb hc hm ha0 ha1 hpl
      unfold ptA at HPA
      go_wp2_with fail
      refine (HPA.out _).mono ?_
      rintro e w2 ⟨rfl, hb2⟩
      have HB2 := Lib.hid (HB.out.trans (hb2.mono HB.out.size))
      clear hb2
      go_wp2_with fail
      go_roundw
      case rel => exact ⟨k + 1, a + placesP p, by omega, rfl, by go_num, by have := HM.out; omega, by have := HM.out; push_cast; omega, by have := HM.out; omega, HB2.out⟩
      case measure => simp [intOf]; omega
    · obtain rfl : k = l.length := by omega
      have b1 : ¬ ((l.length : Int) < (l.length : Int)) := by omega
      rw [List.drop_eq_nil_of_le (Nat.le_refl _)] at hm
      have hma : a = memP l := by rw [← hm]; simp [memP]
      clear hm hb ha0 ha1
      go_wp2_with fail
      go_ret
      exact ⟨by rw [← hma]; rfl, HB.out⟩
def RPrR (l : List PartS) (w : World) (s15 : Value) (wr : World) : Prop := ∃ (k : Nat), k ≤ l.length ∧ s15 = .int .i64 k ∧ allP k (l.drop k) = allP 0 l ∧ Below w.heap.size w wr
set_option maxRecDepth 100000 in
set_option maxHeartbeats 8000000 in
theorem rrightPs_any (l : List PartS) (v : Value) (S : Nat → Prop) (w : World) (hp : PrT w S v l) : Calls Try.prog 54 #[v] w fun e w' => e = .returned (.int .i64 (rightPs l)) ∧ Below w.heap.size w w' := by
  have hm : l.length ≤ maxLen := by obtain ⟨_, c, _, h3, h4, _⟩ := hp; omega
  obtain ⟨A, c, rfl⟩ := hp.form
  have HP := Lib.hid hp
  clear hp hm
  obtain ⟨z, hz⟩ : ∃ z, z = rightPs l := ⟨_, rfl⟩
  rw [← hz]
  unfold rightPs at hz
  by_cases h0 : l.length = 0
  · rw [if_pos (.inl h0)] at hz
    subst hz
    have i0 : (l.length : Int) < 1 := by omega
    clear h0
    go_enter Try.func54, Try.ntmps54
    go_wp2_with fail
    go_ret
    exact ⟨rfl, Below.refl _ _⟩
  · have i0 : ¬ (l.length : Int) < 1 := by omega
    have i0d : decide ((l.length : Int) < 1) = false := decide_eq_false i0
    by_cases h16 : 16 < l.length
    · rw [if_pos (.inr h16)] at hz
      subst hz
      have i1 : (16 : Int) < (l.length : Int) := by omega
      clear h0 h16
      go_enter Try.func54, Try.ntmps54
      go_wp2_with fail
      go_ret
      exact ⟨rfl, Below.refl _ _⟩
    · rw [if_neg (by omega)] at hz
      have i1 : ¬ (16 : Int) < (l.length : Int) := by omega
      have i1d : decide ((16 : Int) < (l.length : Int)) = false := decide_eq_false i1
      have HZ := Lib.hid hz
      have HL := Lib.hid (show l.length ≤ 16 by omega)
      clear h0 h16 hz
      go_enter Try.func54, Try.ntmps54
      go_wp2_with fail
      go_loopw [3] (fun s15 wr => RPrR l w s15 wr) (fun s15 _ => l.length - (intOf s15).toNat)
      case atStart => exact ⟨0, Nat.zero_le _, rfl, rfl, Below.refl _ _⟩
      case round =>
        obtain ⟨k, hk, rfl, hal, hb⟩ := hrel
        have HB := Lib.hid hb
        by_cases e0 : k < l.length
        · have b1 : (k : Int) < (l.length : Int) := by omega
          rw [allP_drop e0] at hal
          obtain ⟨g, o, rfl, hg, hc⟩ := (HP.out.below HB.out).nth e0
          have x0 := hc 0 (by omega)
          have x1 := hc 1 (by omega)
          have x2 := hc 2 (by omega)
          have x3 := hc 3 (by omega)
          have x4 := hc 4 (by omega)
          have x5 := hc 5 (by omega)
          have x6 := hc 6 (by omega)
          simp only [ptF] at x0 x1 x2 x3 x4 x5 x6
          rw [Nat.add_zero] at x0
          generalize l[k] = p at *
          have hw1 := wrapE (x := (k : Int) + 1) (by have := HL.out; omega)
          have HPA := Lib.hid (rone_any p k (by have := HL.out; omega))
          obtain ⟨b, hbb⟩ : ∃ b, b = partOk p k := ⟨_, rfl⟩
          rw [← hbb] at hal HPA
          have HAL := Lib.hid hal
          clear hb hc hal hbb
          unfold ptA at HPA
          go_wp2_with fail
          refine (HPA.out _).mono ?_
          rintro e w2 ⟨rfl, hb2⟩
          have HB2 := Lib.hid (HB.out.trans (hb2.mono HB.out.size))
          clear hb2
          cases b with
          | false =>
            go_wp2_with fail
            go_ret
            refine ⟨?_, HB2.out⟩
            rw [HZ.out, ← HAL.out]
            rfl
          | true =>
            go_wp2_with fail
            go_roundw
            case rel => exact ⟨k + 1, by omega, by go_num, by have := HAL.out; rw [← this]; rfl, HB2.out⟩
            case measure => simp [intOf]; omega
        · obtain rfl : k = l.length := by omega
          have b1 : ¬ ((l.length : Int) < (l.length : Int)) := by omega
          rw [List.drop_eq_nil_of_le (Nat.le_refl _)] at hal
          have hal' : allP 0 l = true := by rw [← hal]; rfl
          have hz := HZ.out
          rw [if_pos hal'] at hz
          have HZ2 := Lib.hid hz
          have HM := Lib.hid (fun W (hb : Below w.heap.size w W) => rmemory_any l _ S W (by have := HL.out; omega) (HP.out.below hb))
          clear hal hal' hb hz
          go_wp2_with fail
          refine (HM.out _ HB.out).mono ?_
          rintro e w2 ⟨rfl, hb2⟩
          have HB2 := Lib.hid (HB.out.trans (hb2.mono HB.out.size))
          have hz := HZ2.out
          clear hb2
          by_cases hm : 1048576 < memP l
          · rw [if_pos hm] at hz
            subst hz
            go_wp2_with fail
            go_ret
            exact ⟨rfl, HB2.out⟩
          · rw [if_neg hm] at hz
            subst hz
            go_wp2_with fail
            go_ret
            exact ⟨rfl, HB2.out⟩
end Go.Proofs.Ytiadfmhodlbkiaa
namespace Go.Proofs.Ytiadfmhodlbkiaa
open Go.RowKit
set_option linter.unusedSimpArgs false
set_option linter.unusedVariables false
def MoR (n : Int) (w : World) (s4 s5 : Value) (wr : World) : Prop := ∃ k : Nat, (k : Int) ≤ n ∧ s4 = .int .i64 (2 ^ k) ∧ s5 = .int .i64 k ∧ wr = w
set_option maxRecDepth 100000 in
set_option maxHeartbeats 8000000 in
theorem rcheck_any (c : CfgS) (vp vc vq : Value) (S : Nat → Prop) (w : World) (h8 : c.code.b8 ∧ c.post.b8) (hn : c.code.all ≤ 3000 ∧ c.post.all ≤ 3000) (hp : PrT w S vp c.parts) (hc : Tr w S vc c.code) (hq : Tr w S vq c.post) :
    Calls Try.prog 19 #[.agg (cfgA c.h c.m c.ph c.pm vp vc vq c.has)] w fun e w' => e = .returned (.int .i64 (checkT c)) ∧ Below w.heap.size w w' := by
  obtain ⟨A1, d1, rfl⟩ := hp.form
  obtain ⟨A3, n3, rfl, -, -⟩ := hc.frm
  obtain ⟨A5, n5, rfl, -, -⟩ := hq.frm
  have HCF := Lib.hid (fun W (hb : Below w.heap.size w W) => rconfigT_any c (.slice A1 c.parts.length d1) _ _ S W ⟨_, _, _, rfl⟩ h8 hn (hc.below hb) (hq.below hb))
  have HP := Lib.hid hp
  obtain ⟨z, hz⟩ : ∃ z, z = checkT c := ⟨_, rfl⟩
  rw [← hz]
  unfold checkT at hz
  have HZ := Lib.hid hz
  clear hz h8 hn hp hc hq
  have hba : Below w.heap.size w (w.alloc (.cells (cfgA c.h c.m c.ph c.pm (.slice A1 c.parts.length d1) (.slice A3 c.code.len n3) (.slice A5 c.post.len n5) c.has) 25)) := (Below.refl _ _).alloc (Nat.le_refl _) _
  have hrow := cfg_row (heap_alloc_new w (.cells (cfgA c.h c.m c.ph c.pm (.slice A1 c.parts.length d1) (.slice A3 c.code.len n3) (.slice A5 c.post.len n5) c.has) 25))
  have HBA := Lib.hid hba
  have HROW := Lib.hid hrow
  clear hba hrow
  unfold cfgA at *
  go_enter Try.func19, Try.ntmps19
  go_wp2_with fail
  generalize w.alloc (.cells #[.int .i64 c.h, .int .i64 c.m, .int .i64 c.ph, .int .i64 c.pm, .slice A1 c.parts.length d1, .slice A3 c.code.len n3, .slice A5 c.post.len n5, .bool c.has] 25) = W1 at *
  refine (HCF.out _ HBA.out).mono ?_
  rintro e w2 ⟨rfl, hb2⟩
  have hr2 := below_row hb2 HROW.out HROW.out.lt
  have HR2 := Lib.hid hr2
  have HB2 := Lib.hid (HBA.out.trans (hb2.mono HBA.out.size))
  have c0 : w2.cell? ⟨w.heap.size, 0, none⟩ = some (.int .i64 c.h) := hr2.cell (by omega)
  have c1 : w2.cell? ⟨w.heap.size, 1, none⟩ = some (.int .i64 c.m) := hr2.cell (by omega)
  have c2 : w2.cell? ⟨w.heap.size, 2, none⟩ = some (.int .i64 c.ph) := hr2.cell (by omega)
  have c3 : w2.cell? ⟨w.heap.size, 3, none⟩ = some (.int .i64 c.pm) := hr2.cell (by omega)
  have c4 : w2.cell? ⟨w.heap.size, 4, none⟩ = some (.slice A1 c.parts.length d1) := hr2.cell (by omega)
  clear hb2 hr2 HROW HBA
  cases hcf : configT c with
  | false =>
    have hz := HZ.out
    rw [if_pos hcf] at hz
    subst hz
    clear hcf
    go_wp2_with fail
    go_ret
    exact ⟨rfl, HB2.out⟩
  | true =>
    have hz := HZ.out
    rw [if_neg (by rw [hcf]; decide)] at hz
    have HZ2 := Lib.hid hz
    clear hcf hz
    by_cases b0 : (c.h < 0)
    · have hz := HZ2.out
      rw [if_pos (by
        cases hh : (inC c.h 8 && inC c.ph 8 && inC c.m 12 && inC c.pm 12) with
        | false => rfl
        | true =>
          simp only [inC, Bool.and_eq_true, decide_eq_true_eq] at hh
          omega)] at hz
      subst hz
      go_wp2_with fail
      go_ret
      exact ⟨rfl, HB2.out⟩
    have D0 : decide (c.h < 0) = false := decide_eq_false b0
    by_cases b1 : ((8 : Int) < c.h)
    · have hz := HZ2.out
      rw [if_pos (by
        cases hh : (inC c.h 8 && inC c.ph 8 && inC c.m 12 && inC c.pm 12) with
        | false => rfl
        | true =>
          simp only [inC, Bool.and_eq_true, decide_eq_true_eq] at hh
          omega)] at hz
      subst hz
      go_wp2_with fail
      go_ret
      exact ⟨rfl, HB2.out⟩
    have D1 : decide ((8 : Int) < c.h) = false := decide_eq_false b1
    by_cases b2 : (c.ph < 0)
    · have hz := HZ2.out
      rw [if_pos (by
        cases hh : (inC c.h 8 && inC c.ph 8 && inC c.m 12 && inC c.pm 12) with
        | false => rfl
        | true =>
          simp only [inC, Bool.and_eq_true, decide_eq_true_eq] at hh
          omega)] at hz
      subst hz
      go_wp2_with fail
      go_ret
      exact ⟨rfl, HB2.out⟩
    have D2 : decide (c.ph < 0) = false := decide_eq_false b2
    by_cases b3 : ((8 : Int) < c.ph)
    · have hz := HZ2.out
      rw [if_pos (by
        cases hh : (inC c.h 8 && inC c.ph 8 && inC c.m 12 && inC c.pm 12) with
        | false => rfl
        | true =>
          simp only [inC, Bool.and_eq_true, decide_eq_true_eq] at hh
          omega)] at hz
      subst hz
      go_wp2_with fail
      go_ret
      exact ⟨rfl, HB2.out⟩
    have D3 : decide ((8 : Int) < c.ph) = false := decide_eq_false b3
    by_cases b4 : (c.m < 0)
    · have hz := HZ2.out
      rw [if_pos (by
        cases hh : (inC c.h 8 && inC c.ph 8 && inC c.m 12 && inC c.pm 12) with
        | false => rfl
        | true =>
          simp only [inC, Bool.and_eq_true, decide_eq_true_eq] at hh
          omega)] at hz
      subst hz
      go_wp2_with fail
      go_ret
      exact ⟨rfl, HB2.out⟩
    have D4 : decide (c.m < 0) = false := decide_eq_false b4
    by_cases b5 : ((12 : Int) < c.m)
    · have hz := HZ2.out
      rw [if_pos (by
        cases hh : (inC c.h 8 && inC c.ph 8 && inC c.m 12 && inC c.pm 12) with
        | false => rfl
        | true =>
          simp only [inC, Bool.and_eq_true, decide_eq_true_eq] at hh
          omega)] at hz
      subst hz
      go_wp2_with fail
      go_ret
      exact ⟨rfl, HB2.out⟩
    have D5 : decide ((12 : Int) < c.m) = false := decide_eq_false b5
    by_cases b6 : (c.pm < 0)
    · have hz := HZ2.out
      rw [if_pos (by
        cases hh : (inC c.h 8 && inC c.ph 8 && inC c.m 12 && inC c.pm 12) with
        | false => rfl
        | true =>
          simp only [inC, Bool.and_eq_true, decide_eq_true_eq] at hh
          omega)] at hz
      subst hz
      go_wp2_with fail
      go_ret
      exact ⟨rfl, HB2.out⟩
    have D6 : decide (c.pm < 0) = false := decide_eq_false b6
    by_cases b7 : ((12 : Int) < c.pm)
    · have hz := HZ2.out
      rw [if_pos (by
        cases hh : (inC c.h 8 && inC c.ph 8 && inC c.m 12 && inC c.pm 12) with
        | false => rfl
        | true =>
          simp only [inC, Bool.and_eq_true, decide_eq_true_eq] at hh
          omega)] at hz
      subst hz
      go_wp2_with fail
      go_ret
      exact ⟨rfl, HB2.out⟩
    have D7 : decide ((12 : Int) < c.pm) = false := decide_eq_false b7
    have hz := HZ2.out
    rw [if_neg (by
      have hh : (inC c.h 8 && inC c.ph 8 && inC c.m 12 && inC c.pm 12) = true := by
        simp only [inC, Bool.and_eq_true, decide_eq_true_eq]
        omega
      rw [hh]; decide)] at hz
    have HZ3 := Lib.hid hz
    have HH := Lib.hid (show 0 ≤ c.h ∧ c.h ≤ 8 by omega)
    have HRP := Lib.hid (rrightPs_any c.parts _ S w2 (HP.out.below HB2.out))
    clear hz
    go_wp2_with fail
    refine HRP.out.mono ?_
    rintro e w5 ⟨rfl, hb5⟩
    have hr5 := below_row hb5 HR2.out HR2.out.lt
    have c4' : w5.cell? ⟨w.heap.size, 4, none⟩ = some (.slice A1 c.parts.length d1) := hr5.cell (by omega)
    have c0' : w5.cell? ⟨w.heap.size, 0, none⟩ = some (.int .i64 c.h) := hr5.cell (by omega)
    have HB5 := Lib.hid (HB2.out.trans (hb5.mono HB2.out.size))
    clear hr5 hb5 c0 c1 c2 c3 c4 HRP b0 b1 b2 b3 b4 b5 b6 b7 D0 D1 D2 D3 D4 D5 D6 D7
    generalize rightPs c.parts = e at *
    by_cases he : e = 0
    · have i0 : (e != 0) = false := by rw [he]; rfl
      have hz := HZ3.out
      rw [if_neg (by rw [he]; decide)] at hz
      have HZ4 := Lib.hid hz
      clear hz he
      go_wp2_with fail
      go_loopw [4, 5] (fun s4 s5 wr => MoR c.h w5 s4 s5 wr) (fun _ s5 _ => c.h.toNat - (intOf s5).toNat)
      case atStart => exact ⟨0, by have := HH.out; omega, rfl, rfl, rfl⟩
      case round =>
        obtain ⟨k, hk, rfl, rfl, rfl⟩ := hrel
        by_cases hlt : (k : Int) < c.h
        · have hh := HH.out
          have hp := pow_16 k (by omega)
          have hs := pow_step k (by omega)
          have hw1 := wrapE (x := (2 : Int) ^ k * 2) (by omega)
          have hw2 := wrapE (x := (k : Int) + 1) (by omega)
          rw [← hs] at hw1
          have HS := Lib.hid hs
          clear hs hh
          go_wp2_with fail
          go_roundw
          case rel => exact ⟨k + 1, by omega, by rw [HS.out] <;> first | rfl | go_num, by go_num, rfl⟩
          case measure => simp [intOf]; omega
        · have hkn : (k : Int) = c.h := by omega
          have hk2 : c.h.toNat = k := by omega
          have hz := HZ4.out
          rw [hk2] at hz
          clear hk2 hkn hk
          generalize (2 : Int) ^ k = n at *
          by_cases hlt2 : n < (c.parts.length : Int)
          · rw [if_pos hlt2] at hz
            subst hz
            go_wp2_with fail
            go_ret
            exact ⟨rfl, HB5.out⟩
          · rw [if_neg hlt2] at hz
            subst hz
            go_wp2_with fail
            go_ret
            exact ⟨rfl, HB5.out⟩
    · have i0 : (e != 0) = true := by rw [bne_iff_ne]; exact he
      have hz := HZ3.out
      rw [if_pos he] at hz
      have HZ4 := Lib.hid hz
      clear hz he
      go_wp2_with fail
      go_ret
      exact ⟨by rw [HZ4.out]; rfl, HB5.out⟩
end Go.Proofs.Ytiadfmhodlbkiaa
