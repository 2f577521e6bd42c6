/-
  THE WALKS OF package syntax, first part: plain, condition. Conditions: an Op is a byte.
  THE WALK OF parts.Places. Conditions: none.
  THE WALK OF parts.right. Conditions: the place is one of at most 16.
-/
import Derived.Test.YthmpagehmfillaaQ22
import Derived.WalkKit
import Derived.ProofKit
import Derived.Test.YthmpagehmfillaaQ23
namespace Go.Proofs.Ythmpagehmfillaa
open Go.RowKit
set_option linter.unusedSimpArgs false
set_option linter.unusedVariables false
def insA (o : Nat) (d s n : Int) : Array Value := #[.int .u8 o, .int .i64 d, .int .i64 s, .int .i64 n]
/-- A block behind a call. -/
theorem blk_keep {w W : World} {a : Array Value} {t : TypeId} (hb : Below (w.alloc (.cells a t)).heap.size (w.alloc (.cells a t)) W) : (∀ j, W.cell? ⟨w.heap.size, j, none⟩ = a[j]?) ∧ Below w.heap.size w W := by
  have e := World.size_alloc w (.cells a t)
  have h1 := heap_alloc_new w (.cells a t)
  have hb0 : Below w.heap.size w (w.alloc (.cells a t)) := (Below.refl _ _).alloc (Nat.le_refl _) _
  exact ⟨fun j => cell_of_row _ _ _ _ _ _ ((hb.block _ (by omega)).trans h1), hb0.trans (hb.mono (by omega))⟩
set_option maxRecDepth 100000 in
set_option maxHeartbeats 8000000 in
theorem plain_any (o : Nat) (ho : o < 256) (d s n : Int) (post : Bool) (w : World) : Calls Try.prog 77 #[insV o d s n, .bool post] w fun e w' => e = .returned (.bool (plainS ⟨o, d, s, n⟩ post)) ∧ Below w.heap.size w w' := by
  have HR := Lib.hid (fun W => right_any o ho d s n W)
  unfold insV at *
  obtain ⟨r, hr⟩ : ∃ r, r = plainS ⟨o, d, s, n⟩ post := ⟨_, rfl⟩
  rw [← hr]
  unfold plainS at hr
  simp only [] at hr
  cases hq : rightI o d s n with
  | false =>
    rw [hq] at HR hr
    simp only [Bool.false_eq_true, if_false] at HR
    have hr2 : r = false := by rw [hr]; simp
    subst hr2
    clear hr hq
    go_enter Try.func77, Try.ntmps77
    go_wp2_with fail
    refine (HR.out _).mono ?_
    rintro e W2 ⟨rfl, hb⟩
    obtain ⟨hk, hb2⟩ := blk_keep hb
    have c0 : W2.cell? ⟨w.heap.size, 0, none⟩ = some (.int .u8 o) := hk 0
    have HB2 := Lib.hid hb2
    clear hb hk hb2
    go_wp2_with fail
    go_ret
    refine ⟨?_, HB2.out⟩
    rfl
  | true =>
    rw [hq] at HR hr
    simp only [if_true] at HR
    clear hq
    by_cases h0 : o = 0
    · have hr2 : r = false := by rw [hr]; simp [h0]
      subst hr2
      clear hr
      have i0 : ((o : Int) == 0) = true := by rw [beq_iff_eq]; omega
      clear h0
      go_enter Try.func77, Try.ntmps77
      go_wp2_with fail
      refine (HR.out _).mono ?_
      rintro e W2 ⟨rfl, hb⟩
      obtain ⟨hk, hb2⟩ := blk_keep hb
      have c0 : W2.cell? ⟨w.heap.size, 0, none⟩ = some (.int .u8 o) := hk 0
      have HB2 := Lib.hid hb2
      clear hb hk hb2
      go_wp2_with fail
      go_ret
      refine ⟨?_, HB2.out⟩
      rfl
    have i0 : ((o : Int) == 0) = false := by rw [beq_eq_false_iff_ne]; omega
    by_cases h27 : 27 ≤ o
    · have hr2 : r = false := by rw [hr]; simp [h27]
      subst hr2
      clear hr h0
      have i1 : (27 : Int) ≤ (o : Int) := by omega
      clear h27
      go_enter Try.func77, Try.ntmps77
      go_wp2_with fail
      refine (HR.out _).mono ?_
      rintro e W2 ⟨rfl, hb⟩
      obtain ⟨hk, hb2⟩ := blk_keep hb
      have c0 : W2.cell? ⟨w.heap.size, 0, none⟩ = some (.int .u8 o) := hk 0
      have HB2 := Lib.hid hb2
      clear hb hk hb2
      go_wp2_with fail
      go_ret
      refine ⟨?_, HB2.out⟩
      rfl
    have i1 : ¬ (27 : Int) ≤ (o : Int) := by omega
    by_cases h19 : 19 ≤ o
    · have i2 : (19 : Int) ≤ (o : Int) := by omega
      by_cases h21 : o ≤ 21
      · have hr2 : r = false := by rw [hr]; simp [h19, h21]
        have i3 : (o : Int) ≤ 21 := by omega
        subst hr2
        clear hr h0 h27 h19 h21
        go_enter Try.func77, Try.ntmps77
        go_wp2_with fail
        refine (HR.out _).mono ?_
        rintro e W2 ⟨rfl, hb⟩
        obtain ⟨hk, hb2⟩ := blk_keep hb
        have c0 : W2.cell? ⟨w.heap.size, 0, none⟩ = some (.int .u8 o) := hk 0
        have HB2 := Lib.hid hb2
        clear hb hk hb2
        go_wp2_with fail
        go_ret
        refine ⟨?_, HB2.out⟩
        rfl
      · have i3 : ¬ (o : Int) ≤ 21 := by omega
        cases post with
        | true =>
          have hr2 : r = true := by rw [hr]; simp [h0, h27, h21]
          subst hr2
          clear hr h0 h27 h19 h21
          go_enter Try.func77, Try.ntmps77
          go_wp2_with fail
          refine (HR.out _).mono ?_
          rintro e W2 ⟨rfl, hb⟩
          obtain ⟨hk, hb2⟩ := blk_keep hb
          have c0 : W2.cell? ⟨w.heap.size, 0, none⟩ = some (.int .u8 o) := hk 0
          have HB2 := Lib.hid hb2
          clear hb hk hb2
          go_wp2_with fail
          go_ret
          refine ⟨?_, HB2.out⟩
          rfl
        | false =>
          by_cases h26 : o = 26
          · have hr2 : r = false := by rw [hr]; simp [h26]
            have i4 : ((o : Int) != 26) = false := by rw [h26]; rfl
            subst hr2
            clear hr h0 h27 h19 h21 h26
            go_enter Try.func77, Try.ntmps77
            go_wp2_with fail
            refine (HR.out _).mono ?_
            rintro e W2 ⟨rfl, hb⟩
            obtain ⟨hk, hb2⟩ := blk_keep hb
            have c0 : W2.cell? ⟨w.heap.size, 0, none⟩ = some (.int .u8 o) := hk 0
            have HB2 := Lib.hid hb2
            clear hb hk hb2
            go_wp2_with fail
            go_ret
            refine ⟨?_, HB2.out⟩
            rfl
          · have hr2 : r = true := by rw [hr]; simp [h0, h27, h21, h26]
            have i4 : ((o : Int) != 26) = true := by rw [bne_iff_ne]; omega
            subst hr2
            clear hr h0 h27 h19 h21 h26
            go_enter Try.func77, Try.ntmps77
            go_wp2_with fail
            refine (HR.out _).mono ?_
            rintro e W2 ⟨rfl, hb⟩
            obtain ⟨hk, hb2⟩ := blk_keep hb
            have c0 : W2.cell? ⟨w.heap.size, 0, none⟩ = some (.int .u8 o) := hk 0
            have HB2 := Lib.hid hb2
            clear hb hk hb2
            go_wp2_with fail
            go_ret
            refine ⟨?_, HB2.out⟩
            rfl
    · have i2 : ¬ (19 : Int) ≤ (o : Int) := by omega
      have hr2 : r = true := by rw [hr]; simp [h0, h27, h19]; right; omega
      have i4 : ((o : Int) != 26) = true := by rw [bne_iff_ne]; omega
      subst hr2
      clear hr h0 h27 h19
      cases post with
      | true =>
        go_enter Try.func77, Try.ntmps77
        go_wp2_with fail
        refine (HR.out _).mono ?_
        rintro e W2 ⟨rfl, hb⟩
        obtain ⟨hk, hb2⟩ := blk_keep hb
        have c0 : W2.cell? ⟨w.heap.size, 0, none⟩ = some (.int .u8 o) := hk 0
        have HB2 := Lib.hid hb2
        clear hb hk hb2
        go_wp2_with fail
        go_ret
        refine ⟨?_, HB2.out⟩
        rfl
      | false =>
        go_enter Try.func77, Try.ntmps77
        go_wp2_with fail
        refine (HR.out _).mono ?_
        rintro e W2 ⟨rfl, hb⟩
        obtain ⟨hk, hb2⟩ := blk_keep hb
        have c0 : W2.cell? ⟨w.heap.size, 0, none⟩ = some (.int .u8 o) := hk 0
        have HB2 := Lib.hid hb2
        clear hb hk hb2
        go_wp2_with fail
        go_ret
        refine ⟨?_, HB2.out⟩
        rfl
set_option maxRecDepth 100000 in
set_option maxHeartbeats 8000000 in
theorem condition_any (nt : Bool) (o : Nat) (ho : o < 256) (d s n : Int) (w : World) : Calls Try.prog 78 #[.agg #[.bool nt, .int .u8 o, .int .i64 d, .int .i64 s, .int .i64 n]] w fun e w' => e = .returned (.bool (condS ⟨nt, ⟨o, d, s, n⟩⟩)) ∧ Below w.heap.size w w' := by
  have HR := Lib.hid (fun W => right_any o ho d s n W)
  unfold insV at *
  obtain ⟨r, hr⟩ : ∃ r, r = condS ⟨nt, ⟨o, d, s, n⟩⟩ := ⟨_, rfl⟩
  rw [← hr]
  unfold condS at hr
  simp only [] at hr
  cases hq : rightI o d s n with
  | false =>
    rw [hq] at HR hr
    simp only [Bool.false_eq_true, if_false] at HR
    have hr2 : r = false := by rw [hr]; simp
    subst hr2
    clear hr hq
    go_enter Try.func78, Try.ntmps78
    go_wp2_with fail
    refine (HR.out _).mono ?_
    rintro e W2 ⟨rfl, hb⟩
    obtain ⟨hk, hb2⟩ := blk_keep hb
    have c1 : W2.cell? ⟨w.heap.size, 1, none⟩ = some (.int .u8 o) := hk 1
    have HB2 := Lib.hid hb2
    clear hb hk hb2
    go_wp2_with fail
    go_ret
    refine ⟨?_, HB2.out⟩
    rfl
  | true =>
    rw [hq] at HR hr
    simp only [if_true] at HR
    clear hq
    by_cases h19 : 19 ≤ o
    · have i2 : (19 : Int) ≤ (o : Int) := by omega
      by_cases h21 : o ≤ 21
      · have hr2 : r = true := by rw [hr]; simp [h19, h21]
        have i3 : (o : Int) ≤ 21 := by omega
        subst hr2
        clear hr h19 h21
        go_enter Try.func78, Try.ntmps78
        go_wp2_with fail
        refine (HR.out _).mono ?_
        rintro e W2 ⟨rfl, hb⟩
        obtain ⟨hk, hb2⟩ := blk_keep hb
        have c1 : W2.cell? ⟨w.heap.size, 1, none⟩ = some (.int .u8 o) := hk 1
        have HB2 := Lib.hid hb2
        clear hb hk hb2
        go_wp2_with fail
        go_ret
        refine ⟨?_, HB2.out⟩
        rfl
      · have i3 : ¬ (o : Int) ≤ 21 := by omega
        have hr2 : r = false := by rw [hr]; simp [h21]
        subst hr2
        clear hr h19 h21
        go_enter Try.func78, Try.ntmps78
        go_wp2_with fail
        refine (HR.out _).mono ?_
        rintro e W2 ⟨rfl, hb⟩
        obtain ⟨hk, hb2⟩ := blk_keep hb
        have c1 : W2.cell? ⟨w.heap.size, 1, none⟩ = some (.int .u8 o) := hk 1
        have HB2 := Lib.hid hb2
        clear hb hk hb2
        go_wp2_with fail
        go_ret
        refine ⟨?_, HB2.out⟩
        show Ending.returned (.bool (decide ((o : Int) ≤ 21))) = _; rw [decide_eq_false (show ¬ (o : Int) ≤ 21 by omega)]
    · have i2 : ¬ (19 : Int) ≤ (o : Int) := by omega
      have hr2 : r = false := by rw [hr]; simp [h19]
      subst hr2
      clear hr h19
      go_enter Try.func78, Try.ntmps78
      go_wp2_with fail
      refine (HR.out _).mono ?_
      rintro e W2 ⟨rfl, hb⟩
      obtain ⟨hk, hb2⟩ := blk_keep hb
      have c1 : W2.cell? ⟨w.heap.size, 1, none⟩ = some (.int .u8 o) := hk 1
      have HB2 := Lib.hid hb2
      clear hb hk hb2
      go_wp2_with fail
      go_ret
      refine ⟨?_, HB2.out⟩
      rfl
end Go.Proofs.Ythmpagehmfillaa
namespace Go.Proofs.Ythmpagehmfillaa
open Go.RowKit
set_option linter.unusedSimpArgs false
set_option linter.unusedVariables false
theorem shl1 {n : Int} (h0 : 0 ≤ n) (h1 : n ≤ 16) (W : World) : (Op.shift .shl .i64 1 .i64 n).run Try.prog W = .ok (.int .i64 (2 ^ n.toNat)) W := by
  have h : n = 0 ∨ n = 1 ∨ n = 2 ∨ n = 3 ∨ n = 4 ∨ n = 5 ∨ n = 6 ∨ n = 7 ∨ n = 8 ∨ n = 9 ∨ n = 10 ∨ n = 11 ∨ n = 12 ∨ n = 13 ∨ n = 14 ∨ n = 15 ∨ n = 16 := by omega
  rcases h with rfl | rfl | rfl | rfl | rfl | rfl | rfl | rfl | rfl | rfl | rfl | rfl | rfl | rfl | rfl | rfl | rfl
  all_goals rfl
theorem wrapE {x : Int} (h : -9223372036854775808 ≤ x ∧ x < 9223372036854775808) : IntKind.i64.wrap x = x := by rw [IntKind.wrap_i64]; omega; all_goals omega
set_option maxRecDepth 100000 in
set_option maxHeartbeats 8000000 in
theorem places_any (p : PartS) (w : World) : Calls Try.prog 76 #[.agg (ptA p)] w fun e w' => e = .returned (.int .i64 (placesP p)) ∧ Below w.heap.size w w' := by
  have HR0 := rowP_any p.k
  have h16 := rowP_16 p.k
  obtain ⟨z, hz⟩ : ∃ z, z = placesP p := ⟨_, rfl⟩
  rw [← hz]
  unfold placesP at hz
  generalize rowP p.k = r at *
  have HR := Lib.hid HR0
  obtain ⟨rk, rl, rm, ra, rb, rlo, rhi, rra, rli⟩ := r
  simp only [] at hz h16
  have HZ := Lib.hid hz
  have H16 := Lib.hid h16
  clear hz h16 HR0
  unfold ptA
  go_enter Try.func76, Try.ntmps76
  go_wp2_with fail
  refine (HR.out _).mono ?_
  rintro e w2 ⟨rfl, hb⟩
  obtain ⟨hk, hb2⟩ := blk_keep hb
  unfold rowC
  have hb3 : Below w2.heap.size w2 (w2.alloc (.cells #[.int .i64 rl, .int .i64 rm, .bool ra, .bool rb, .int .i64 rlo, .int .i64 rhi, .bool rra, .bool rli] 156)) := (Below.refl _ _).alloc (Nat.le_refl _) _
  have r3 := heap_alloc_new w2 (.cells #[.int .i64 rl, .int .i64 rm, .bool ra, .bool rb, .int .i64 rlo, .int .i64 rhi, .bool rra, .bool rli] 156)
  have hlt : w.heap.size < w2.heap.size := Nat.lt_of_lt_of_le (by rw [World.size_alloc]; omega) hb.size
  go_upto_region 2 with fail
  generalize w2.alloc (.cells #[.int .i64 rl, .int .i64 rm, .bool ra, .bool rb, .int .i64 rlo, .int .i64 rhi, .bool rra, .bool rli] 156) = W3 at *
  have c0 : W3.cell? ⟨w.heap.size, 0, none⟩ = some (.int .u8 p.k) := (hb3.cell (p := ⟨w.heap.size, 0, none⟩) hlt).trans (hk 0)
  have c1 : W3.cell? ⟨w.heap.size, 1, none⟩ = some (.int .i64 p.size) := (hb3.cell (p := ⟨w.heap.size, 1, none⟩) hlt).trans (hk 1)
  have c3 : W3.cell? ⟨w.heap.size, 3, none⟩ = some (.int .i64 p.b) := (hb3.cell (p := ⟨w.heap.size, 3, none⟩) hlt).trans (hk 3)
  have d0 : W3.cell? ⟨w2.heap.size, 0, none⟩ = some (.int .i64 rl) := cell_of_row _ _ _ _ _ _ r3
  have d1 : W3.cell? ⟨w2.heap.size, 1, none⟩ = some (.int .i64 rm) := cell_of_row _ _ _ _ _ _ r3
  have HB := Lib.hid (hb2.trans (hb3.mono hb2.size))
  clear hb hb2 hb3 hk r3 hlt HR
  cases rk with
  | false =>
    have hz := HZ.out
    rw [if_pos (.inl rfl)] at hz
    subst hz
    go_wp2_with fail
    go_ret
    exact ⟨rfl, HB.out⟩
  | true =>
    by_cases h1 : p.size < rl
    · have hz := HZ.out
      rw [if_pos (.inr (.inl h1))] at hz
      subst hz
      go_wp2_with fail
      go_ret
      exact ⟨rfl, HB.out⟩
    · by_cases h2 : rm < p.size
      · have hz := HZ.out
        rw [if_pos (.inr (.inr h2))] at hz
        subst hz
        go_wp2_with fail
        go_ret
        exact ⟨rfl, HB.out⟩
      · have hz := HZ.out
        rw [if_neg (by simp; omega)] at hz
        have hsz : 0 ≤ p.size ∧ p.size ≤ 16 := by have := H16.out; omega
        have HZ2 := Lib.hid hz
        have HS := Lib.hid hsz
        clear hz hsz
        have hsh := fun W => shl1 HS.out.1 HS.out.2 W
        have hn := pow_16 p.size.toNat (by have := HS.out; omega)
        have hz2 := HZ2.out
        clear HZ2 HZ
        generalize (2 : Int) ^ p.size.toNat = n at *
        have HN := Lib.hid hn
        have HZ3 := Lib.hid hz2
        clear hn hz2
        by_cases k3 : p.k = 3
        · have hz := HZ3.out
          rw [if_pos k3] at hz
          have e3 : ((p.k : Int) == 3) = true := by rw [k3]; rfl
          have e4 : ((p.k : Int) == 4) = false := by rw [k3]; rfl
          have e7 : ((p.k : Int) == 7) = false := by rw [k3]; rfl
          have e8 : ((p.k : Int) == 8) = false := by rw [k3]; rfl
          have e9 : ((p.k : Int) == 9) = false := by rw [k3]; rfl
          clear k3
          have hw := wrapE (x := n + 256) (by have := HN.out; omega)
          have HZ4 := Lib.hid hz
          clear hz
          go_wp2_with fail
          go_ret
          exact ⟨by rw [HZ4.out]; rfl, HB.out⟩
        by_cases k4 : p.k = 4
        · have hz := HZ3.out
          rw [if_neg k3] at hz
          rw [if_pos k4] at hz
          have e3 : ((p.k : Int) == 3) = false := by rw [k4]; rfl
          have e4 : ((p.k : Int) == 4) = true := by rw [k4]; rfl
          have e7 : ((p.k : Int) == 7) = false := by rw [k4]; rfl
          have e8 : ((p.k : Int) == 8) = false := by rw [k4]; rfl
          have e9 : ((p.k : Int) == 9) = false := by rw [k4]; rfl
          clear k3 k4
          have hw := wrapE (x := 2 * n) (by have := HN.out; omega)
          have HZ4 := Lib.hid hz
          clear hz
          go_wp2_with fail
          go_ret
          exact ⟨by rw [HZ4.out]; rfl, HB.out⟩
        by_cases k7 : p.k = 7
        · have hz := HZ3.out
          rw [if_neg k3] at hz
          rw [if_neg k4] at hz
          rw [if_pos k7] at hz
          have e3 : ((p.k : Int) == 3) = false := by rw [k7]; rfl
          have e4 : ((p.k : Int) == 4) = false := by rw [k7]; rfl
          have e7 : ((p.k : Int) == 7) = true := by rw [k7]; rfl
          have e8 : ((p.k : Int) == 8) = false := by rw [k7]; rfl
          have e9 : ((p.k : Int) == 9) = false := by rw [k7]; rfl
          clear k3 k4 k7
          by_cases hb : p.b < 1
          · rw [if_pos (.inl hb)] at hz
            subst hz
            go_wp2_with fail
            go_ret
            exact ⟨rfl, HB.out⟩
          · by_cases hb8 : 8 < p.b
            · rw [if_pos (.inr hb8)] at hz
              subst hz
              go_wp2_with fail
              go_ret
              exact ⟨rfl, HB.out⟩
            · rw [if_neg (by omega)] at hz
              have hw := wrapE (x := n * p.b) (by
                have hbb : p.b = 1 ∨ p.b = 2 ∨ p.b = 3 ∨ p.b = 4 ∨ p.b = 5 ∨ p.b = 6 ∨ p.b = 7 ∨ p.b = 8 := by omega
                have := HN.out
                rcases hbb with hb | hb | hb | hb | hb | hb | hb | hb <;> rw [hb] <;> omega)
              have HZ4 := Lib.hid hz
              clear hz
              go_wp2_with fail
              go_ret
              exact ⟨by rw [HZ4.out]; rfl, HB.out⟩
        by_cases k8 : p.k = 8
        · have hz := HZ3.out
          rw [if_neg k3] at hz
          rw [if_neg k4] at hz
          rw [if_neg k7] at hz
          rw [if_pos k8] at hz
          have e3 : ((p.k : Int) == 3) = false := by rw [k8]; rfl
          have e4 : ((p.k : Int) == 4) = false := by rw [k8]; rfl
          have e7 : ((p.k : Int) == 7) = false := by rw [k8]; rfl
          have e8 : ((p.k : Int) == 8) = true := by rw [k8]; rfl
          have e9 : ((p.k : Int) == 9) = false := by rw [k8]; rfl
          clear k3 k4 k7 k8
          have hw := wrapE (x := n + 512) (by have := HN.out; omega)
          have HZ4 := Lib.hid hz
          clear hz
          go_wp2_with fail
          go_ret
          exact ⟨by rw [HZ4.out]; rfl, HB.out⟩
        by_cases k9 : p.k = 9
        · have hz := HZ3.out
          rw [if_neg k3] at hz
          rw [if_neg k4] at hz
          rw [if_neg k7] at hz
          rw [if_neg k8] at hz
          rw [if_pos k9] at hz
          have e3 : ((p.k : Int) == 3) = false := by rw [k9]; rfl
          have e4 : ((p.k : Int) == 4) = false := by rw [k9]; rfl
          have e7 : ((p.k : Int) == 7) = false := by rw [k9]; rfl
          have e8 : ((p.k : Int) == 8) = false := by rw [k9]; rfl
          have e9 : ((p.k : Int) == 9) = true := by rw [k9]; rfl
          clear k3 k4 k7 k8 k9
          have hw := wrapE (x := n * 32) (by have := HN.out; omega)
          have HZ4 := Lib.hid hz
          clear hz
          go_wp2_with fail
          go_ret
          exact ⟨by rw [HZ4.out]; rfl, HB.out⟩
        have hz := HZ3.out
        rw [if_neg k3, if_neg k4, if_neg k7, if_neg k8, if_neg k9] at hz
        have e3 : ((p.k : Int) == 3) = false := by rw [beq_eq_false_iff_ne]; omega
        have e4 : ((p.k : Int) == 4) = false := by rw [beq_eq_false_iff_ne]; omega
        have e7 : ((p.k : Int) == 7) = false := by rw [beq_eq_false_iff_ne]; omega
        have e8 : ((p.k : Int) == 8) = false := by rw [beq_eq_false_iff_ne]; omega
        have e9 : ((p.k : Int) == 9) = false := by rw [beq_eq_false_iff_ne]; omega
        have HZ4 := Lib.hid hz
        clear hz k3 k4 k7 k8 k9
        go_wp2_with fail
        go_ret
        exact ⟨by rw [HZ4.out]; rfl, HB.out⟩
end Go.Proofs.Ythmpagehmfillaa
namespace Go.Proofs.Ythmpagehmfillaa
open Go.RowKit
set_option linter.unusedSimpArgs false
set_option linter.unusedVariables false
theorem eqPt (p : PartS) (W : World) : (binOp .neq 69 (.agg (ptA p)) (.agg #[.int .u8 0, .int .i64 0, .int .i64 0, .int .i64 0, .int .i64 0, .int .i64 0, .int .i64 0])).run Try.prog W = .ok (.bool (!decide (p = pZ))) W := by
  obtain ⟨k, a, b, c, d, e, f⟩ := p
  unfold ptA pZ
  go_simp
  by_cases h1 : k = 0 <;> by_cases h2 : a = 0 <;> by_cases h3 : b = 0 <;> by_cases h4 : c = 0 <;> by_cases h5 : d = 0 <;> by_cases h6 : e = 0 <;> by_cases h7 : f = 0 <;> simp [h1, h2, h3, h4, h5, h6, h7]
set_option maxRecDepth 100000 in
set_option maxHeartbeats 8000000 in
theorem part_any (p : PartS) (i : Nat) (hi : i ≤ 16) (w : World) : Calls Try.prog 47 #[.agg (ptA p), .int .i64 i] w fun e w' => e = .returned (.bool (partOk p i)) ∧ Below w.heap.size w w' := by
  have HR0 := rowP_any p.k
  have h7 : p.k = 7 → (rowP p.k).a = true := by intro h; rw [h]; rfl
  have hEQ := fun W => eqPt p W
  obtain ⟨z, hz⟩ : ∃ z, z = partOk p i := ⟨_, rfl⟩
  obtain ⟨qp, hqp⟩ : ∃ q, q = !decide (p = pZ) := ⟨_, rfl⟩
  rw [← hqp] at hEQ
  rw [← hz]
  unfold partOk at hz
  rw [← hqp] at hz
  simp only [] at hz
  generalize rowP p.k = r at *
  have HR := Lib.hid HR0
  obtain ⟨rk, rl, rm, ra, rb, rlo, rhi, rra, rli⟩ := r
  simp only [] at hz h7
  obtain ⟨b1, hb1⟩ : ∃ b, b = inP p.size rl rm (decide (0 ≤ rm)) := ⟨_, rfl⟩
  obtain ⟨b2, hb2⟩ : ∃ b, b = inP p.c rlo rhi (decide (0 < rhi)) := ⟨_, rfl⟩
  obtain ⟨b3, hb3⟩ : ∃ b, b = inP p.rate 1 64 rra := ⟨_, rfl⟩
  obtain ⟨b4, hb4⟩ : ∃ b, b = inP p.limit 1 1023 rli := ⟨_, rfl⟩
  obtain ⟨b5, hb5⟩ : ∃ b, b = inP p.a 0 (i - 1) ra := ⟨_, rfl⟩
  obtain ⟨b6, hb6⟩ : ∃ b, b = inP p.b 1 (min 8 (i - p.a)) true := ⟨_, rfl⟩
  obtain ⟨b7, hb7⟩ : ∃ b, b = inP p.b 0 (i - 1) rb := ⟨_, rfl⟩
  rw [← hb1, ← hb2, ← hb3, ← hb4, ← hb5, ← hb6, ← hb7] at hz
  have HI1 := Lib.hid (fun W => hb1 ▸ inP_any p.size rl rm (decide (0 ≤ rm)) W)
  have HI2 := Lib.hid (fun W => hb2 ▸ inP_any p.c rlo rhi (decide (0 < rhi)) W)
  have HI3 := Lib.hid (fun W => hb3 ▸ inP_any p.rate 1 64 rra W)
  have HI4 := Lib.hid (fun W => hb4 ▸ inP_any p.limit 1 1023 rli W)
  have HI5 := Lib.hid (fun W => hb5 ▸ inP_any p.a 0 (i - 1) ra W)
  have HI6 := Lib.hid (fun W => hb6 ▸ inP_any p.b 1 (min 8 (i - p.a)) true W)
  have HI7 := Lib.hid (fun W => hb7 ▸ inP_any p.b 0 (i - 1) rb W)
  have h5 : b5 = true → p.k = 7 → 0 ≤ p.a ∧ p.a ≤ (i : Int) - 1 := by
    intro h hk
    rw [hb5, h7 hk] at h
    unfold inP at h
    rw [if_pos rfl] at h
    simpa using h
  have hw1 := wrapE (x := (i : Int) - 1) (by omega)
  have HZ := Lib.hid hz
  have H5 := Lib.hid h5
  clear hz hb1 hb2 hb3 hb4 hb5 hb6 hb7 h7 h5 hqp HR0
  unfold ptA at *
  go_enter Try.func47, Try.ntmps47
  go_wp2_with fail
  refine (HR.out _).mono ?_
  rintro e w2 ⟨rfl, hb⟩
  obtain ⟨hk, hb2⟩ := blk_keep hb
  unfold rowC
  have hb3 : Below w2.heap.size w2 (w2.alloc (.cells #[.int .i64 rl, .int .i64 rm, .bool ra, .bool rb, .int .i64 rlo, .int .i64 rhi, .bool rra, .bool rli] 156)) := (Below.refl _ _).alloc (Nat.le_refl _) _
  have r3 := heap_alloc_new w2 (.cells #[.int .i64 rl, .int .i64 rm, .bool ra, .bool rb, .int .i64 rlo, .int .i64 rhi, .bool rra, .bool rli] 156)
  have hlt : w.heap.size < w2.heap.size := Nat.lt_of_lt_of_le (by rw [World.size_alloc]; omega) hb.size
  go_upto_region 2 with fail
  generalize w2.alloc (.cells #[.int .i64 rl, .int .i64 rm, .bool ra, .bool rb, .int .i64 rlo, .int .i64 rhi, .bool rra, .bool rli] 156) = W3 at *
  have c0 : W3.cell? ⟨w.heap.size, 0, none⟩ = some (.int .u8 p.k) := (hb3.cell (p := ⟨w.heap.size, 0, none⟩) hlt).trans (hk 0)
  have c1 : W3.cell? ⟨w.heap.size, 1, none⟩ = some (.int .i64 p.size) := (hb3.cell (p := ⟨w.heap.size, 1, none⟩) hlt).trans (hk 1)
  have c2 : W3.cell? ⟨w.heap.size, 2, none⟩ = some (.int .i64 p.a) := (hb3.cell (p := ⟨w.heap.size, 2, none⟩) hlt).trans (hk 2)
  have c3 : W3.cell? ⟨w.heap.size, 3, none⟩ = some (.int .i64 p.b) := (hb3.cell (p := ⟨w.heap.size, 3, none⟩) hlt).trans (hk 3)
  have c4 : W3.cell? ⟨w.heap.size, 4, none⟩ = some (.int .i64 p.c) := (hb3.cell (p := ⟨w.heap.size, 4, none⟩) hlt).trans (hk 4)
  have c5 : W3.cell? ⟨w.heap.size, 5, none⟩ = some (.int .i64 p.rate) := (hb3.cell (p := ⟨w.heap.size, 5, none⟩) hlt).trans (hk 5)
  have c6 : W3.cell? ⟨w.heap.size, 6, none⟩ = some (.int .i64 p.limit) := (hb3.cell (p := ⟨w.heap.size, 6, none⟩) hlt).trans (hk 6)
  have d0 : W3.cell? ⟨w2.heap.size, 0, none⟩ = some (.int .i64 rl) := cell_of_row _ _ _ _ _ _ r3
  have d1 : W3.cell? ⟨w2.heap.size, 1, none⟩ = some (.int .i64 rm) := cell_of_row _ _ _ _ _ _ r3
  have d2 : W3.cell? ⟨w2.heap.size, 2, none⟩ = some (.bool ra) := cell_of_row _ _ _ _ _ _ r3
  have d3 : W3.cell? ⟨w2.heap.size, 3, none⟩ = some (.bool rb) := cell_of_row _ _ _ _ _ _ r3
  have d4 : W3.cell? ⟨w2.heap.size, 4, none⟩ = some (.int .i64 rlo) := cell_of_row _ _ _ _ _ _ r3
  have d5 : W3.cell? ⟨w2.heap.size, 5, none⟩ = some (.int .i64 rhi) := cell_of_row _ _ _ _ _ _ r3
  have d6 : W3.cell? ⟨w2.heap.size, 6, none⟩ = some (.bool rra) := cell_of_row _ _ _ _ _ _ r3
  have d7 : W3.cell? ⟨w2.heap.size, 7, none⟩ = some (.bool rli) := cell_of_row _ _ _ _ _ _ r3
  have HB := Lib.hid (hb2.trans (hb3.mono hb2.size))
  clear hb hb2 hb3 hk r3 hlt HR
  cases rk with
  | false =>
    go_wp2_with fail
    go_ret
    exact ⟨by rw [HZ.out]; rfl, HB.out⟩
  | true =>
  go_wp2_with fail
  refine (HI1.out _).mono ?_
  rintro e W4 ⟨rfl, rfl⟩
  cases b1 with
  | false =>
    go_wp2_with fail
    go_ret
    exact ⟨by rw [HZ.out]; rfl, HB.out⟩
  | true =>
  go_wp2_with fail
  refine (HI2.out _).mono ?_
  rintro e W4 ⟨rfl, rfl⟩
  cases b2 with
  | false =>
    go_wp2_with fail
    go_ret
    exact ⟨by rw [HZ.out]; rfl, HB.out⟩
  | true =>
  go_wp2_with fail
  refine (HI3.out _).mono ?_
  rintro e W4 ⟨rfl, rfl⟩
  cases b3 with
  | false =>
    go_wp2_with fail
    go_ret
    exact ⟨by rw [HZ.out]; rfl, HB.out⟩
  | true =>
  go_wp2_with fail
  refine (HI4.out _).mono ?_
  rintro e W4 ⟨rfl, rfl⟩
  cases b4 with
  | false =>
    go_wp2_with fail
    go_ret
    exact ⟨by rw [HZ.out]; rfl, HB.out⟩
  | true =>
  go_wp2_with fail
  refine (HI5.out _).mono ?_
  rintro e W4 ⟨rfl, rfl⟩
  cases b5 with
  | false =>
    go_wp2_with fail
    go_ret
    exact ⟨by rw [HZ.out]; rfl, HB.out⟩
  | true =>
  by_cases k7 : p.k = 7
  · have e7 : ((p.k : Int) == 7) = true := by rw [k7]; rfl
    have hr := H5.out rfl k7
    have hw2 := wrapE (x := (i : Int) - p.a) (by omega)
    have hz := HZ.out
    rw [if_pos k7] at hz
    have HZ2 := Lib.hid hz
    have hmn : (if (i : Int) - p.a < 8 then (i : Int) - p.a else 8) = min 8 ((i : Int) - p.a) := by omega
    clear k7 hr hz
    go_wp2_with fail
    refine (HI6.out _).mono ?_
    rintro e W4 ⟨rfl, rfl⟩
    go_wp2_with fail
    go_ret
    exact ⟨by rw [HZ2.out]; rfl, HB.out⟩
  · have e7 : ((p.k : Int) == 7) = false := by rw [beq_eq_false_iff_ne]; omega
    have hz := HZ.out
    rw [if_neg k7] at hz
    have HZ2 := Lib.hid hz
    clear k7 hz
    go_wp2_with fail
    refine (HI7.out _).mono ?_
    rintro e W4 ⟨rfl, rfl⟩
    cases b7 with
    | false =>
      go_wp2_with fail
      go_ret
      exact ⟨by rw [HZ2.out]; rfl, HB.out⟩
    | true =>
      go_wp2_with fail
      go_ret
      exact ⟨by rw [HZ2.out]; rfl, HB.out⟩
end Go.Proofs.Ythmpagehmfillaa
