/-
  THE WALK OF parts.Places. Conditions: none.
-/
import Derived.Test.YtiadfmhodlbkiaaPtS
import Derived.Test.YtiadfmhodlbkiaaSynW1
namespace Go.Proofs.Ytiadfmhodlbkiaa
open Go.RowKit
set_option linter.unusedSimpArgs false
set_option linter.unusedVariables false
theorem shl1 {n : Int} (h0 : 0 ≤ n) (h1 : n ≤ 16) (W : World) : (Op.shift .shl .i64 1 .i64 n).run Try.prog W = .ok (.int .i64 (2 ^ n.toNat)) W := by
  have h : n = 0 ∨ n = 1 ∨ n = 2 ∨ n = 3 ∨ n = 4 ∨ n = 5 ∨ n = 6 ∨ n = 7 ∨ n = 8 ∨ n = 9 ∨ n = 10 ∨ n = 11 ∨ n = 12 ∨ n = 13 ∨ n = 14 ∨ n = 15 ∨ n = 16 := by omega
  rcases h with rfl | rfl | rfl | rfl | rfl | rfl | rfl | rfl | rfl | rfl | rfl | rfl | rfl | rfl | rfl | rfl | rfl
  all_goals rfl
theorem wrapE {x : Int} (h : -9223372036854775808 ≤ x ∧ x < 9223372036854775808) : IntKind.i64.wrap x = x := by rw [IntKind.wrap_i64]; omega; all_goals omega
set_option maxRecDepth 100000 in
set_option maxHeartbeats 8000000 in
theorem places_any (p : PartS) (w : World) : Calls Try.prog 82 #[.agg (ptA p)] w fun e w' => e = .returned (.int .i64 (placesP p)) ∧ Below w.heap.size w w' := by
  have HR0 := rowP_any p.k
  have h16 := rowP_16 p.k
  obtain ⟨z, hz⟩ : ∃ z, z = placesP p := ⟨_, rfl⟩
  rw [← hz]
  unfold placesP at hz
  generalize rowP p.k = r at *
  have HR := Lib.hid HR0
  obtain ⟨rk, rl, rm, ra, rb, rlo, rhi, rra, rli⟩ := r
  simp only [] at hz h16
  have HZ := Lib.hid hz
  have H16 := Lib.hid h16
  clear hz h16 HR0
  unfold ptA
  go_enter Try.func82, Try.ntmps82
  go_wp2_with fail
  refine (HR.out _).mono ?_
  rintro e w2 ⟨rfl, hb⟩
  obtain ⟨hk, hb2⟩ := blk_keep hb
  unfold rowC
  have hb3 : Below w2.heap.size w2 (w2.alloc (.cells #[.int .i64 rl, .int .i64 rm, .bool ra, .bool rb, .int .i64 rlo, .int .i64 rhi, .bool rra, .bool rli] 116)) := (Below.refl _ _).alloc (Nat.le_refl _) _
  have r3 := heap_alloc_new w2 (.cells #[.int .i64 rl, .int .i64 rm, .bool ra, .bool rb, .int .i64 rlo, .int .i64 rhi, .bool rra, .bool rli] 116)
  have hlt : w.heap.size < w2.heap.size := Nat.lt_of_lt_of_le (by rw [World.size_alloc]; omega) hb.size
  go_upto_region 2 with fail
  generalize w2.alloc (.cells #[.int .i64 rl, .int .i64 rm, .bool ra, .bool rb, .int .i64 rlo, .int .i64 rhi, .bool rra, .bool rli] 116) = W3 at *
  have c0 : W3.cell? ⟨w.heap.size, 0, none⟩ = some (.int .u8 p.k) := (hb3.cell (p := ⟨w.heap.size, 0, none⟩) hlt).trans (hk 0)
  have c1 : W3.cell? ⟨w.heap.size, 1, none⟩ = some (.int .i64 p.size) := (hb3.cell (p := ⟨w.heap.size, 1, none⟩) hlt).trans (hk 1)
  have c3 : W3.cell? ⟨w.heap.size, 3, none⟩ = some (.int .i64 p.b) := (hb3.cell (p := ⟨w.heap.size, 3, none⟩) hlt).trans (hk 3)
  have d0 : W3.cell? ⟨w2.heap.size, 0, none⟩ = some (.int .i64 rl) := cell_of_row _ _ _ _ _ _ r3
  have d1 : W3.cell? ⟨w2.heap.size, 1, none⟩ = some (.int .i64 rm) := cell_of_row _ _ _ _ _ _ r3
  have HB := Lib.hid (hb2.trans (hb3.mono hb2.size))
  clear hb hb2 hb3 hk r3 hlt HR
  cases rk with
  | false =>
    have hz := HZ.out
    rw [if_pos (.inl rfl)] at hz
    subst hz
    go_wp2_with fail
    go_ret
    exact ⟨rfl, HB.out⟩
  | true =>
    by_cases h1 : p.size < rl
    · have hz := HZ.out
      rw [if_pos (.inr (.inl h1))] at hz
      subst hz
      go_wp2_with fail
      go_ret
      exact ⟨rfl, HB.out⟩
    · by_cases h2 : rm < p.size
      · have hz := HZ.out
        rw [if_pos (.inr (.inr h2))] at hz
        subst hz
        go_wp2_with fail
        go_ret
        exact ⟨rfl, HB.out⟩
      · have hz := HZ.out
        rw [if_neg (by simp; omega)] at hz
        have hsz : 0 ≤ p.size ∧ p.size ≤ 16 := by have := H16.out; omega
        have HZ2 := Lib.hid hz
        have HS := Lib.hid hsz
        clear hz hsz
        have hsh := fun W => shl1 HS.out.1 HS.out.2 W
        have hn := pow_16 p.size.toNat (by have := HS.out; omega)
        have hz2 := HZ2.out
        clear HZ2 HZ
        generalize (2 : Int) ^ p.size.toNat = n at *
        have HN := Lib.hid hn
        have HZ3 := Lib.hid hz2
        clear hn hz2
        by_cases k3 : p.k = 3
        · have hz := HZ3.out
          rw [if_pos k3] at hz
          have e3 : ((p.k : Int) == 3) = true := by rw [k3]; rfl
          have e4 : ((p.k : Int) == 4) = false := by rw [k3]; rfl
          have e7 : ((p.k : Int) == 7) = false := by rw [k3]; rfl
          have e8 : ((p.k : Int) == 8) = false := by rw [k3]; rfl
          have e9 : ((p.k : Int) == 9) = false := by rw [k3]; rfl
          clear k3
          have hw := wrapE (x := n + 256) (by have := HN.out; omega)
          have HZ4 := Lib.hid hz
          clear hz
          go_wp2_with fail
          go_ret
          exact ⟨by rw [HZ4.out]; rfl, HB.out⟩
        by_cases k4 : p.k = 4
        · have hz := HZ3.out
          rw [if_neg k3] at hz
          rw [if_pos k4] at hz
          have e3 : ((p.k : Int) == 3) = false := by rw [k4]; rfl
          have e4 : ((p.k : Int) == 4) = true := by rw [k4]; rfl
          have e7 : ((p.k : Int) == 7) = false := by rw [k4]; rfl
          have e8 : ((p.k : Int) == 8) = false := by rw [k4]; rfl
          have e9 : ((p.k : Int) == 9) = false := by rw [k4]; rfl
          clear k3 k4
          have hw := wrapE (x := 2 * n) (by have := HN.out; omega)
          have HZ4 := Lib.hid hz
          clear hz
          go_wp2_with fail
          go_ret
          exact ⟨by rw [HZ4.out]; rfl, HB.out⟩
        by_cases k7 : p.k = 7
        · have hz := HZ3.out
          rw [if_neg k3] at hz
          rw [if_neg k4] at hz
          rw [if_pos k7] at hz
          have e3 : ((p.k : Int) == 3) = false := by rw [k7]; rfl
          have e4 : ((p.k : Int) == 4) = false := by rw [k7]; rfl
          have e7 : ((p.k : Int) == 7) = true := by rw [k7]; rfl
          have e8 : ((p.k : Int) == 8) = false := by rw [k7]; rfl
          have e9 : ((p.k : Int) == 9) = false := by rw [k7]; rfl
          clear k3 k4 k7
          by_cases hb : p.b < 1
          · rw [if_pos (.inl hb)] at hz
            subst hz
            go_wp2_with fail
            go_ret
            exact ⟨rfl, HB.out⟩
          · by_cases hb8 : 8 < p.b
            · rw [if_pos (.inr hb8)] at hz
              subst hz
              go_wp2_with fail
              go_ret
              exact ⟨rfl, HB.out⟩
            · rw [if_neg (by omega)] at hz
              have hw := wrapE (x := n * p.b) (by
                have hbb : p.b = 1 ∨ p.b = 2 ∨ p.b = 3 ∨ p.b = 4 ∨ p.b = 5 ∨ p.b = 6 ∨ p.b = 7 ∨ p.b = 8 := by omega
                have := HN.out
                rcases hbb with hb | hb | hb | hb | hb | hb | hb | hb <;> rw [hb] <;> omega)
              have HZ4 := Lib.hid hz
              clear hz
              go_wp2_with fail
              go_ret
              exact ⟨by rw [HZ4.out]; rfl, HB.out⟩
        by_cases k8 : p.k = 8
        · have hz := HZ3.out
          rw [if_neg k3] at hz
          rw [if_neg k4] at hz
          rw [if_neg k7] at hz
          rw [if_pos k8] at hz
          have e3 : ((p.k : Int) == 3) = false := by rw [k8]; rfl
          have e4 : ((p.k : Int) == 4) = false := by rw [k8]; rfl
          have e7 : ((p.k : Int) == 7) = false := by rw [k8]; rfl
          have e8 : ((p.k : Int) == 8) = true := by rw [k8]; rfl
          have e9 : ((p.k : Int) == 9) = false := by rw [k8]; rfl
          clear k3 k4 k7 k8
          have hw := wrapE (x := n + 512) (by have := HN.out; omega)
          have HZ4 := Lib.hid hz
          clear hz
          go_wp2_with fail
          go_ret
          exact ⟨by rw [HZ4.out]; rfl, HB.out⟩
        by_cases k9 : p.k = 9
        · have hz := HZ3.out
          rw [if_neg k3] at hz
          rw [if_neg k4] at hz
          rw [if_neg k7] at hz
          rw [if_neg k8] at hz
          rw [if_pos k9] at hz
          have e3 : ((p.k : Int) == 3) = false := by rw [k9]; rfl
          have e4 : ((p.k : Int) == 4) = false := by rw [k9]; rfl
          have e7 : ((p.k : Int) == 7) = false := by rw [k9]; rfl
          have e8 : ((p.k : Int) == 8) = false := by rw [k9]; rfl
          have e9 : ((p.k : Int) == 9) = true := by rw [k9]; rfl
          clear k3 k4 k7 k8 k9
          have hw := wrapE (x := n * 32) (by have := HN.out; omega)
          have HZ4 := Lib.hid hz
          clear hz
          go_wp2_with fail
          go_ret
          exact ⟨by rw [HZ4.out]; rfl, HB.out⟩
        have hz := HZ3.out
        rw [if_neg k3, if_neg k4, if_neg k7, if_neg k8, if_neg k9] at hz
        have e3 : ((p.k : Int) == 3) = false := by rw [beq_eq_false_iff_ne]; omega
        have e4 : ((p.k : Int) == 4) = false := by rw [beq_eq_false_iff_ne]; omega
        have e7 : ((p.k : Int) == 7) = false := by rw [beq_eq_false_iff_ne]; omega
        have e8 : ((p.k : Int) == 8) = false := by rw [beq_eq_false_iff_ne]; omega
        have e9 : ((p.k : Int) == 9) = false := by rw [beq_eq_false_iff_ne]; omega
        have HZ4 := Lib.hid hz
        clear hz k3 k4 k7 k8 k9
        go_wp2_with fail
        go_ret
        exact ⟨by rw [HZ4.out]; rfl, HB.out⟩
end Go.Proofs.Ytiadfmhodlbkiaa
