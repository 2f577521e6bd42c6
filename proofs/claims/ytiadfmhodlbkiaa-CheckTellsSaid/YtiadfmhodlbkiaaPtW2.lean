/-
  THE WALK OF parts.right. Conditions: the place is one of at most 16.
-/
import Derived.Test.YtiadfmhodlbkiaaPtW1
namespace Go.Proofs.Ytiadfmhodlbkiaa
open Go.RowKit
set_option linter.unusedSimpArgs false
set_option linter.unusedVariables false
theorem eqPt (p : PartS) (W : World) : (binOp .neq 55 (.agg (ptA p)) (.agg #[.int .u8 0, .int .i64 0, .int .i64 0, .int .i64 0, .int .i64 0, .int .i64 0, .int .i64 0])).run Try.prog W = .ok (.bool (!decide (p = pZ))) W := by
  obtain ⟨k, a, b, c, d, e, f⟩ := p
  unfold ptA pZ
  go_simp
  by_cases h1 : k = 0 <;> by_cases h2 : a = 0 <;> by_cases h3 : b = 0 <;> by_cases h4 : c = 0 <;> by_cases h5 : d = 0 <;> by_cases h6 : e = 0 <;> by_cases h7 : f = 0 <;> simp [h1, h2, h3, h4, h5, h6, h7]
set_option maxRecDepth 100000 in
set_option maxHeartbeats 8000000 in
theorem part_any (p : PartS) (i : Nat) (hi : i ≤ 16) (w : World) : Calls Try.prog 71 #[.agg (ptA p), .int .i64 i] w fun e w' => e = .returned (.bool (partOk p i)) ∧ Below w.heap.size w w' := by
  have HR0 := rowP_any p.k
  have h7 : p.k = 7 → (rowP p.k).a = true := by intro h; rw [h]; rfl
  have hEQ := fun W => eqPt p W
  obtain ⟨z, hz⟩ : ∃ z, z = partOk p i := ⟨_, rfl⟩
  obtain ⟨qp, hqp⟩ : ∃ q, q = !decide (p = pZ) := ⟨_, rfl⟩
  rw [← hqp] at hEQ
  rw [← hz]
  unfold partOk at hz
  rw [← hqp] at hz
  simp only [] at hz
  generalize rowP p.k = r at *
  have HR := Lib.hid HR0
  obtain ⟨rk, rl, rm, ra, rb, rlo, rhi, rra, rli⟩ := r
  simp only [] at hz h7
  obtain ⟨b1, hb1⟩ : ∃ b, b = inP p.size rl rm (decide (0 ≤ rm)) := ⟨_, rfl⟩
  obtain ⟨b2, hb2⟩ : ∃ b, b = inP p.c rlo rhi (decide (0 < rhi)) := ⟨_, rfl⟩
  obtain ⟨b3, hb3⟩ : ∃ b, b = inP p.rate 1 64 rra := ⟨_, rfl⟩
  obtain ⟨b4, hb4⟩ : ∃ b, b = inP p.limit 1 1023 rli := ⟨_, rfl⟩
  obtain ⟨b5, hb5⟩ : ∃ b, b = inP p.a 0 (i - 1) ra := ⟨_, rfl⟩
  obtain ⟨b6, hb6⟩ : ∃ b, b = inP p.b 1 (min 8 (i - p.a)) true := ⟨_, rfl⟩
  obtain ⟨b7, hb7⟩ : ∃ b, b = inP p.b 0 (i - 1) rb := ⟨_, rfl⟩
  rw [← hb1, ← hb2, ← hb3, ← hb4, ← hb5, ← hb6, ← hb7] at hz
  have HI1 := Lib.hid (fun W => hb1 ▸ inP_any p.size rl rm (decide (0 ≤ rm)) W)
  have HI2 := Lib.hid (fun W => hb2 ▸ inP_any p.c rlo rhi (decide (0 < rhi)) W)
  have HI3 := Lib.hid (fun W => hb3 ▸ inP_any p.rate 1 64 rra W)
  have HI4 := Lib.hid (fun W => hb4 ▸ inP_any p.limit 1 1023 rli W)
  have HI5 := Lib.hid (fun W => hb5 ▸ inP_any p.a 0 (i - 1) ra W)
  have HI6 := Lib.hid (fun W => hb6 ▸ inP_any p.b 1 (min 8 (i - p.a)) true W)
  have HI7 := Lib.hid (fun W => hb7 ▸ inP_any p.b 0 (i - 1) rb W)
  have h5 : b5 = true → p.k = 7 → 0 ≤ p.a ∧ p.a ≤ (i : Int) - 1 := by
    intro h hk
    rw [hb5, h7 hk] at h
    unfold inP at h
    rw [if_pos rfl] at h
    simpa using h
  have hw1 := wrapE (x := (i : Int) - 1) (by omega)
  have HZ := Lib.hid hz
  have H5 := Lib.hid h5
  clear hz hb1 hb2 hb3 hb4 hb5 hb6 hb7 h7 h5 hqp HR0
  unfold ptA at *
  go_enter Try.func71, Try.ntmps71
  go_wp2_with fail
  refine (HR.out _).mono ?_
  rintro e w2 ⟨rfl, hb⟩
  obtain ⟨hk, hb2⟩ := blk_keep hb
  unfold rowC
  have hb3 : Below w2.heap.size w2 (w2.alloc (.cells #[.int .i64 rl, .int .i64 rm, .bool ra, .bool rb, .int .i64 rlo, .int .i64 rhi, .bool rra, .bool rli] 116)) := (Below.refl _ _).alloc (Nat.le_refl _) _
  have r3 := heap_alloc_new w2 (.cells #[.int .i64 rl, .int .i64 rm, .bool ra, .bool rb, .int .i64 rlo, .int .i64 rhi, .bool rra, .bool rli] 116)
  have hlt : w.heap.size < w2.heap.size := Nat.lt_of_lt_of_le (by rw [World.size_alloc]; omega) hb.size
  go_upto_region 2 with fail
  generalize w2.alloc (.cells #[.int .i64 rl, .int .i64 rm, .bool ra, .bool rb, .int .i64 rlo, .int .i64 rhi, .bool rra, .bool rli] 116) = W3 at *
  have c0 : W3.cell? ⟨w.heap.size, 0, none⟩ = some (.int .u8 p.k) := (hb3.cell (p := ⟨w.heap.size, 0, none⟩) hlt).trans (hk 0)
  have c1 : W3.cell? ⟨w.heap.size, 1, none⟩ = some (.int .i64 p.size) := (hb3.cell (p := ⟨w.heap.size, 1, none⟩) hlt).trans (hk 1)
  have c2 : W3.cell? ⟨w.heap.size, 2, none⟩ = some (.int .i64 p.a) := (hb3.cell (p := ⟨w.heap.size, 2, none⟩) hlt).trans (hk 2)
  have c3 : W3.cell? ⟨w.heap.size, 3, none⟩ = some (.int .i64 p.b) := (hb3.cell (p := ⟨w.heap.size, 3, none⟩) hlt).trans (hk 3)
  have c4 : W3.cell? ⟨w.heap.size, 4, none⟩ = some (.int .i64 p.c) := (hb3.cell (p := ⟨w.heap.size, 4, none⟩) hlt).trans (hk 4)
  have c5 : W3.cell? ⟨w.heap.size, 5, none⟩ = some (.int .i64 p.rate) := (hb3.cell (p := ⟨w.heap.size, 5, none⟩) hlt).trans (hk 5)
  have c6 : W3.cell? ⟨w.heap.size, 6, none⟩ = some (.int .i64 p.limit) := (hb3.cell (p := ⟨w.heap.size, 6, none⟩) hlt).trans (hk 6)
  have d0 : W3.cell? ⟨w2.heap.size, 0, none⟩ = some (.int .i64 rl) := cell_of_row _ _ _ _ _ _ r3
  have d1 : W3.cell? ⟨w2.heap.size, 1, none⟩ = some (.int .i64 rm) := cell_of_row _ _ _ _ _ _ r3
  have d2 : W3.cell? ⟨w2.heap.size, 2, none⟩ = some (.bool ra) := cell_of_row _ _ _ _ _ _ r3
  have d3 : W3.cell? ⟨w2.heap.size, 3, none⟩ = some (.bool rb) := cell_of_row _ _ _ _ _ _ r3
  have d4 : W3.cell? ⟨w2.heap.size, 4, none⟩ = some (.int .i64 rlo) := cell_of_row _ _ _ _ _ _ r3
  have d5 : W3.cell? ⟨w2.heap.size, 5, none⟩ = some (.int .i64 rhi) := cell_of_row _ _ _ _ _ _ r3
  have d6 : W3.cell? ⟨w2.heap.size, 6, none⟩ = some (.bool rra) := cell_of_row _ _ _ _ _ _ r3
  have d7 : W3.cell? ⟨w2.heap.size, 7, none⟩ = some (.bool rli) := cell_of_row _ _ _ _ _ _ r3
  have HB := Lib.hid (hb2.trans (hb3.mono hb2.size))
  clear hb hb2 hb3 hk r3 hlt HR
  cases rk with
  | false =>
    go_wp2_with fail
    go_ret
    exact ⟨by rw [HZ.out]; rfl, HB.out⟩
  | true =>
  go_wp2_with fail
  refine (HI1.out _).mono ?_
  rintro e W4 ⟨rfl, rfl⟩
  cases b1 with
  | false =>
    go_wp2_with fail
    go_ret
    exact ⟨by rw [HZ.out]; rfl, HB.out⟩
  | true =>
  go_wp2_with fail
  refine (HI2.out _).mono ?_
  rintro e W4 ⟨rfl, rfl⟩
  cases b2 with
  | false =>
    go_wp2_with fail
    go_ret
    exact ⟨by rw [HZ.out]; rfl, HB.out⟩
  | true =>
  go_wp2_with fail
  refine (HI3.out _).mono ?_
  rintro e W4 ⟨rfl, rfl⟩
  cases b3 with
  | false =>
    go_wp2_with fail
    go_ret
    exact ⟨by rw [HZ.out]; rfl, HB.out⟩
  | true =>
  go_wp2_with fail
  refine (HI4.out _).mono ?_
  rintro e W4 ⟨rfl, rfl⟩
  cases b4 with
  | false =>
    go_wp2_with fail
    go_ret
    exact ⟨by rw [HZ.out]; rfl, HB.out⟩
  | true =>
  go_wp2_with fail
  refine (HI5.out _).mono ?_
  rintro e W4 ⟨rfl, rfl⟩
  cases b5 with
  | false =>
    go_wp2_with fail
    go_ret
    exact ⟨by rw [HZ.out]; rfl, HB.out⟩
  | true =>
  by_cases k7 : p.k = 7
  · have e7 : ((p.k : Int) == 7) = true := by rw [k7]; rfl
    have hr := H5.out rfl k7
    have hw2 := wrapE (x := (i : Int) - p.a) (by omega)
    have hz := HZ.out
    rw [if_pos k7] at hz
    have HZ2 := Lib.hid hz
    have hmn : (if (i : Int) - p.a < 8 then (i : Int) - p.a else 8) = min 8 ((i : Int) - p.a) := by omega
    clear k7 hr hz
    go_wp2_with fail
    refine (HI6.out _).mono ?_
    rintro e W4 ⟨rfl, rfl⟩
    go_wp2_with fail
    go_ret
    exact ⟨by rw [HZ2.out]; rfl, HB.out⟩
  · have e7 : ((p.k : Int) == 7) = false := by rw [beq_eq_false_iff_ne]; omega
    have hz := HZ.out
    rw [if_neg k7] at hz
    have HZ2 := Lib.hid hz
    clear k7 hz
    go_wp2_with fail
    refine (HI7.out _).mono ?_
    rintro e W4 ⟨rfl, rfl⟩
    cases b7 with
    | false =>
      go_wp2_with fail
      go_ret
      exact ⟨by rw [HZ2.out]; rfl, HB.out⟩
    | true =>
      go_wp2_with fail
      go_ret
      exact ⟨by rw [HZ2.out]; rfl, HB.out⟩
end Go.Proofs.Ytiadfmhodlbkiaa
