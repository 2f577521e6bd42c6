/-
  THE WALKS OF package syntax, first part: plain, condition. Conditions: an Op is a byte.
-/
import Derived.Test.YtiadfmhodlbkiaaSynS
import Derived.WalkKit
import Derived.ProofKit
namespace Go.Proofs.Ytiadfmhodlbkiaa
open Go.RowKit
set_option linter.unusedSimpArgs false
set_option linter.unusedVariables false
def insA (o : Nat) (d s n : Int) : Array Value := #[.int .u8 o, .int .i64 d, .int .i64 s, .int .i64 n]
/-- A block behind a call. -/
theorem blk_keep {w W : World} {a : Array Value} {t : TypeId} (hb : Below (w.alloc (.cells a t)).heap.size (w.alloc (.cells a t)) W) : (∀ j, W.cell? ⟨w.heap.size, j, none⟩ = a[j]?) ∧ Below w.heap.size w W := by
  have e := World.size_alloc w (.cells a t)
  have h1 := heap_alloc_new w (.cells a t)
  have hb0 : Below w.heap.size w (w.alloc (.cells a t)) := (Below.refl _ _).alloc (Nat.le_refl _) _
  exact ⟨fun j => cell_of_row _ _ _ _ _ _ ((hb.block _ (by omega)).trans h1), hb0.trans (hb.mono (by omega))⟩
set_option maxRecDepth 100000 in
set_option maxHeartbeats 8000000 in
theorem plain_any (o : Nat) (ho : o < 256) (d s n : Int) (post : Bool) (w : World) : Calls Try.prog 63 #[insV o d s n, .bool post] w fun e w' => e = .returned (.bool (plainS ⟨o, d, s, n⟩ post)) ∧ Below w.heap.size w w' := by
  have HR := Lib.hid (fun W => right_any o ho d s n W)
  unfold insV at *
  obtain ⟨r, hr⟩ : ∃ r, r = plainS ⟨o, d, s, n⟩ post := ⟨_, rfl⟩
  rw [← hr]
  unfold plainS at hr
  simp only [] at hr
  cases hq : rightI o d s n with
  | false =>
    rw [hq] at HR hr
    simp only [Bool.false_eq_true, if_false] at HR
    have hr2 : r = false := by rw [hr]; simp
    subst hr2
    clear hr hq
    go_enter Try.func63, Try.ntmps63
    go_wp2_with fail
    refine (HR.out _).mono ?_
    rintro e W2 ⟨rfl, hb⟩
    obtain ⟨hk, hb2⟩ := blk_keep hb
    have c0 : W2.cell? ⟨w.heap.size, 0, none⟩ = some (.int .u8 o) := hk 0
    have HB2 := Lib.hid hb2
    clear hb hk hb2
    go_wp2_with fail
    go_ret
    refine ⟨?_, HB2.out⟩
    rfl
  | true =>
    rw [hq] at HR hr
    simp only [if_true] at HR
    clear hq
    by_cases h0 : o = 0
    · have hr2 : r = false := by rw [hr]; simp [h0]
      subst hr2
      clear hr
      have i0 : ((o : Int) == 0) = true := by rw [beq_iff_eq]; omega
      clear h0
      go_enter Try.func63, Try.ntmps63
      go_wp2_with fail
      refine (HR.out _).mono ?_
      rintro e W2 ⟨rfl, hb⟩
      obtain ⟨hk, hb2⟩ := blk_keep hb
      have c0 : W2.cell? ⟨w.heap.size, 0, none⟩ = some (.int .u8 o) := hk 0
      have HB2 := Lib.hid hb2
      clear hb hk hb2
      go_wp2_with fail
      go_ret
      refine ⟨?_, HB2.out⟩
      rfl
    have i0 : ((o : Int) == 0) = false := by rw [beq_eq_false_iff_ne]; omega
    by_cases h27 : 27 ≤ o
    · have hr2 : r = false := by rw [hr]; simp [h27]
      subst hr2
      clear hr h0
      have i1 : (27 : Int) ≤ (o : Int) := by omega
      clear h27
      go_enter Try.func63, Try.ntmps63
      go_wp2_with fail
      refine (HR.out _).mono ?_
      rintro e W2 ⟨rfl, hb⟩
      obtain ⟨hk, hb2⟩ := blk_keep hb
      have c0 : W2.cell? ⟨w.heap.size, 0, none⟩ = some (.int .u8 o) := hk 0
      have HB2 := Lib.hid hb2
      clear hb hk hb2
      go_wp2_with fail
      go_ret
      refine ⟨?_, HB2.out⟩
      rfl
    have i1 : ¬ (27 : Int) ≤ (o : Int) := by omega
    by_cases h19 : 19 ≤ o
    · have i2 : (19 : Int) ≤ (o : Int) := by omega
      by_cases h21 : o ≤ 21
      · have hr2 : r = false := by rw [hr]; simp [h19, h21]
        have i3 : (o : Int) ≤ 21 := by omega
        subst hr2
        clear hr h0 h27 h19 h21
        go_enter Try.func63, Try.ntmps63
        go_wp2_with fail
        refine (HR.out _).mono ?_
        rintro e W2 ⟨rfl, hb⟩
        obtain ⟨hk, hb2⟩ := blk_keep hb
        have c0 : W2.cell? ⟨w.heap.size, 0, none⟩ = some (.int .u8 o) := hk 0
        have HB2 := Lib.hid hb2
        clear hb hk hb2
        go_wp2_with fail
        go_ret
        refine ⟨?_, HB2.out⟩
        rfl
      · have i3 : ¬ (o : Int) ≤ 21 := by omega
        cases post with
        | true =>
          have hr2 : r = true := by rw [hr]; simp [h0, h27, h21]
          subst hr2
          clear hr h0 h27 h19 h21
          go_enter Try.func63, Try.ntmps63
          go_wp2_with fail
          refine (HR.out _).mono ?_
          rintro e W2 ⟨rfl, hb⟩
          obtain ⟨hk, hb2⟩ := blk_keep hb
          have c0 : W2.cell? ⟨w.heap.size, 0, none⟩ = some (.int .u8 o) := hk 0
          have HB2 := Lib.hid hb2
          clear hb hk hb2
          go_wp2_with fail
          go_ret
          refine ⟨?_, HB2.out⟩
          rfl
        | false =>
          by_cases h26 : o = 26
          · have hr2 : r = false := by rw [hr]; simp [h26]
            have i4 : ((o : Int) != 26) = false := by rw [h26]; rfl
            subst hr2
            clear hr h0 h27 h19 h21 h26
            go_enter Try.func63, Try.ntmps63
            go_wp2_with fail
            refine (HR.out _).mono ?_
            rintro e W2 ⟨rfl, hb⟩
            obtain ⟨hk, hb2⟩ := blk_keep hb
            have c0 : W2.cell? ⟨w.heap.size, 0, none⟩ = some (.int .u8 o) := hk 0
            have HB2 := Lib.hid hb2
            clear hb hk hb2
            go_wp2_with fail
            go_ret
            refine ⟨?_, HB2.out⟩
            rfl
          · have hr2 : r = true := by rw [hr]; simp [h0, h27, h21, h26]
            have i4 : ((o : Int) != 26) = true := by rw [bne_iff_ne]; omega
            subst hr2
            clear hr h0 h27 h19 h21 h26
            go_enter Try.func63, Try.ntmps63
            go_wp2_with fail
            refine (HR.out _).mono ?_
            rintro e W2 ⟨rfl, hb⟩
            obtain ⟨hk, hb2⟩ := blk_keep hb
            have c0 : W2.cell? ⟨w.heap.size, 0, none⟩ = some (.int .u8 o) := hk 0
            have HB2 := Lib.hid hb2
            clear hb hk hb2
            go_wp2_with fail
            go_ret
            refine ⟨?_, HB2.out⟩
            rfl
    · have i2 : ¬ (19 : Int) ≤ (o : Int) := by omega
      have hr2 : r = true := by rw [hr]; simp [h0, h27, h19]; right; omega
      have i4 : ((o : Int) != 26) = true := by rw [bne_iff_ne]; omega
      subst hr2
      clear hr h0 h27 h19
      cases post with
      | true =>
        go_enter Try.func63, Try.ntmps63
        go_wp2_with fail
        refine (HR.out _).mono ?_
        rintro e W2 ⟨rfl, hb⟩
        obtain ⟨hk, hb2⟩ := blk_keep hb
        have c0 : W2.cell? ⟨w.heap.size, 0, none⟩ = some (.int .u8 o) := hk 0
        have HB2 := Lib.hid hb2
        clear hb hk hb2
        go_wp2_with fail
        go_ret
        refine ⟨?_, HB2.out⟩
        rfl
      | false =>
        go_enter Try.func63, Try.ntmps63
        go_wp2_with fail
        refine (HR.out _).mono ?_
        rintro e W2 ⟨rfl, hb⟩
        obtain ⟨hk, hb2⟩ := blk_keep hb
        have c0 : W2.cell? ⟨w.heap.size, 0, none⟩ = some (.int .u8 o) := hk 0
        have HB2 := Lib.hid hb2
        clear hb hk hb2
        go_wp2_with fail
        go_ret
        refine ⟨?_, HB2.out⟩
        rfl
set_option maxRecDepth 100000 in
set_option maxHeartbeats 8000000 in
theorem condition_any (nt : Bool) (o : Nat) (ho : o < 256) (d s n : Int) (w : World) : Calls Try.prog 64 #[.agg #[.bool nt, .int .u8 o, .int .i64 d, .int .i64 s, .int .i64 n]] w fun e w' => e = .returned (.bool (condS ⟨nt, ⟨o, d, s, n⟩⟩)) ∧ Below w.heap.size w w' := by
  have HR := Lib.hid (fun W => right_any o ho d s n W)
  unfold insV at *
  obtain ⟨r, hr⟩ : ∃ r, r = condS ⟨nt, ⟨o, d, s, n⟩⟩ := ⟨_, rfl⟩
  rw [← hr]
  unfold condS at hr
  simp only [] at hr
  cases hq : rightI o d s n with
  | false =>
    rw [hq] at HR hr
    simp only [Bool.false_eq_true, if_false] at HR
    have hr2 : r = false := by rw [hr]; simp
    subst hr2
    clear hr hq
    go_enter Try.func64, Try.ntmps64
    go_wp2_with fail
    refine (HR.out _).mono ?_
    rintro e W2 ⟨rfl, hb⟩
    obtain ⟨hk, hb2⟩ := blk_keep hb
    have c1 : W2.cell? ⟨w.heap.size, 1, none⟩ = some (.int .u8 o) := hk 1
    have HB2 := Lib.hid hb2
    clear hb hk hb2
    go_wp2_with fail
    go_ret
    refine ⟨?_, HB2.out⟩
    rfl
  | true =>
    rw [hq] at HR hr
    simp only [if_true] at HR
    clear hq
    by_cases h19 : 19 ≤ o
    · have i2 : (19 : Int) ≤ (o : Int) := by omega
      by_cases h21 : o ≤ 21
      · have hr2 : r = true := by rw [hr]; simp [h19, h21]
        have i3 : (o : Int) ≤ 21 := by omega
        subst hr2
        clear hr h19 h21
        go_enter Try.func64, Try.ntmps64
        go_wp2_with fail
        refine (HR.out _).mono ?_
        rintro e W2 ⟨rfl, hb⟩
        obtain ⟨hk, hb2⟩ := blk_keep hb
        have c1 : W2.cell? ⟨w.heap.size, 1, none⟩ = some (.int .u8 o) := hk 1
        have HB2 := Lib.hid hb2
        clear hb hk hb2
        go_wp2_with fail
        go_ret
        refine ⟨?_, HB2.out⟩
        rfl
      · have i3 : ¬ (o : Int) ≤ 21 := by omega
        have hr2 : r = false := by rw [hr]; simp [h21]
        subst hr2
        clear hr h19 h21
        go_enter Try.func64, Try.ntmps64
        go_wp2_with fail
        refine (HR.out _).mono ?_
        rintro e W2 ⟨rfl, hb⟩
        obtain ⟨hk, hb2⟩ := blk_keep hb
        have c1 : W2.cell? ⟨w.heap.size, 1, none⟩ = some (.int .u8 o) := hk 1
        have HB2 := Lib.hid hb2
        clear hb hk hb2
        go_wp2_with fail
        go_ret
        refine ⟨?_, HB2.out⟩
        show Ending.returned (.bool (decide ((o : Int) ≤ 21))) = _; rw [decide_eq_false (show ¬ (o : Int) ≤ 21 by omega)]
    · have i2 : ¬ (19 : Int) ≤ (o : Int) := by omega
      have hr2 : r = false := by rw [hr]; simp [h19]
      subst hr2
      clear hr h19
      go_enter Try.func64, Try.ntmps64
      go_wp2_with fail
      refine (HR.out _).mono ?_
      rintro e W2 ⟨rfl, hb⟩
      obtain ⟨hk, hb2⟩ := blk_keep hb
      have c1 : W2.cell? ⟨w.heap.size, 1, none⟩ = some (.int .u8 o) := hk 1
      have HB2 := Lib.hid hb2
      clear hb hk hb2
      go_wp2_with fail
      go_ret
      refine ⟨?_, HB2.out⟩
      rfl
end Go.Proofs.Ytiadfmhodlbkiaa
