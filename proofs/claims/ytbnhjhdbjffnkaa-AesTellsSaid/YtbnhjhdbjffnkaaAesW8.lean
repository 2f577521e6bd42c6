/-
  THE WALKS OF quillpressref05.Table AND OF quillpresslaw05.row. Conditions: none.
-/
import Derived.Test.YtbnhjhdbjffnkaaAesW2
import Derived.Test.YtbnhjhdbjffnkaaSlices
namespace Go.Proofs.Ytbnhjhdbjffnkaa
open Go.RowKit
set_option linter.unusedSimpArgs false
set_option linter.unusedVariables false

theorem range_snoc (f : Nat → Nat) (k : Nat) : (List.range (k + 1)).map f = (List.range k).map f ++ [f k] := by
  rw [List.range_succ, List.map_append]; rfl
def subL : List Nat := (List.range 256).map sb
set_option maxRecDepth 100000 in
set_option maxHeartbeats 1000000 in
theorem table_any (w : World) : Calls Try.prog 23 #[] w fun e w' => ∃ v, e = .returned v ∧ Ow w' w.heap.size v subL ∧ Below w.heap.size w w' := by
  go_enter Try.func23, Try.ntmps23
  go_wp2
  go_loopw [1, 2] (fun v i wr => ∃ k : Nat, k ≤ 256 ∧ i = .int .i64 k ∧ Ow wr w.heap.size v ((List.range k).map sb) ∧ Below w.heap.size w wr) (fun _ i _ => 256 - (intOf i).toNat)
  case atStart => exact ⟨0, by omega, rfl, Ow.nil _ _, Below.refl _ _⟩
  case round =>
    obtain ⟨k, hk, rfl, ho, hb⟩ := hrel
    have HO := Lib.hid ho
    have HB := Lib.hid hb
    clear ho hb
    by_cases e0 : k < 256
    · go_wp2_with (first
        | (go_at_call 15; (with_reducible refine (rsub_any k e0 _).mono ?_); rintro e w' ⟨rfl, rfl⟩)
        | (at_builtin; refine append_new (.tmp 7) (.tmp 11) rfl rfl _ _ _ (sb k) rfl rfl HO.out rfl (sb_lt e0) (by simp; omega) HB.out.size ?_; intro v1 w1 ho1 hg1 ha1))
      have hb1 : Below w.heap.size w w1 := below_of_append HB.out HO.out hg1 HB.out.size (Nat.le_refl _)
      have HO1 := Lib.hid ho1
      have HB1 := Lib.hid hb1
      clear ho1 hg1 ha1 hb1 HO HB
      go_wp2
      go_roundw
      case rel => exact ⟨k + 1, by omega, by go_num, by rw [range_snoc]; exact HO1.out, HB1.out⟩
      case measure => simp [intOf]; omega
    · obtain rfl : k = 256 := by omega
      go_wp2
      go_ret
      exact ⟨_, rfl, HO.out, HB.out⟩

def rowL (a b n : Nat) : List Nat := (List.range n).map fun i => (a + i * b) % 256
set_option maxRecDepth 100000 in
set_option maxHeartbeats 1000000 in
theorem row_any (a b n : Nat) (ha : a < 256) (hb2 : b < 256) (hn : n ≤ 256) (w : World) : Calls Try.prog 21 #[.int .u8 a, .int .u8 b, .int .i64 n] w fun e w' => ∃ v, e = .returned v ∧ Ow w' w.heap.size v (rowL a b n) ∧ Below w.heap.size w w' := by
  go_enter Try.func21, Try.ntmps21
  go_wp2
  go_loopw [7, 8] (fun v i wr => ∃ k : Nat, k ≤ n ∧ i = .int .i64 k ∧ Ow wr w.heap.size v (rowL a b k) ∧ Below w.heap.size w wr) (fun _ i _ => n - (intOf i).toNat)
  case atStart => exact ⟨0, by omega, rfl, Ow.nil _ _, Below.refl _ _⟩
  case round =>
    obtain ⟨k, hk, rfl, ho, hb⟩ := hrel
    have HO := Lib.hid ho
    have HB := Lib.hid hb
    clear ho hb
    by_cases e0 : k < n
    · go_wp2_with (at_builtin; refine append_new (.tmp 14) (.tmp 21) rfl rfl _ _ _ ((a + k * b) % 256) rfl rfl HO.out (by omega) (by omega) (by simp [rowL]; omega) HB.out.size ?_; intro v1 w1 ho1 hg1 ha1)
      have hb1 : Below w.heap.size w w1 := below_of_append HB.out HO.out hg1 HB.out.size (Nat.le_refl _)
      have HO1 := Lib.hid ho1
      have HB1 := Lib.hid hb1
      clear ho1 hg1 ha1 hb1 HO HB
      go_wp2
      go_roundw
      case rel => exact ⟨k + 1, by omega, by go_num, by unfold rowL; rw [range_snoc]; exact HO1.out, HB1.out⟩
      case measure => simp [intOf]; omega
    · obtain rfl : k = n := by omega
      go_wp2
      go_ret
      exact ⟨_, rfl, HO.out, HB.out⟩
end Go.Proofs.Ytbnhjhdbjffnkaa
