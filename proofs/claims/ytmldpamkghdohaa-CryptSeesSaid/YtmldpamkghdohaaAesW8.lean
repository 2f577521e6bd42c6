/-
  THE WALKS OF quillpressref05.Table AND OF quillpresslaw05.row. Conditions: none.
-/
import Derived.Test.YtmldpamkghdohaaAesW2
import Derived.Test.YtmldpamkghdohaaSlices
namespace Go.Proofs.Ytmldpamkghdohaa
open Go.RowKit
set_option linter.unusedSimpArgs false
set_option linter.unusedVariables false

theorem range_snoc (f : Nat → Nat) (k : Nat) : (List.range (k + 1)).map f = (List.range k).map f ++ [f k] := by
  rw [List.range_succ, List.map_append]; rfl
def subL : List Nat := (List.range 256).map sb
set_option maxRecDepth 100000 in
set_option maxHeartbeats 1000000 in
theorem table_any (w : World) : Calls Try.prog 48 #[] w fun e w' => ∃ v, e = .returned v ∧ Ow w' w.heap.size v subL ∧ Below w.heap.size w w' := by
  go_enter Try.func48, Try.ntmps48
  go_wp2
  go_loopw [1, 2] (fun v i wr => ∃ k : Nat, k ≤ 256 ∧ i = .int .i64 k ∧ Ow wr w.heap.size v ((List.range k).map sb) ∧ Below w.heap.size w wr) (fun _ i _ => 256 - (intOf i).toNat)
  case atStart => exact ⟨0, by omega, rfl, Ow.nil _ _, Below.refl _ _⟩
  case round =>
    obtain ⟨k, hk, rfl, ho, hb⟩ := hrel
    have HO := Lib.hid ho
    have HB := Lib.hid hb
    clear ho hb
    by_cases e0 : k < 256
    · go_wp2_with (first
        | (go_at_call 70; (with_reducible refine (rsub_any k e0 _).mono ?_); rintro e w' ⟨rfl, rfl⟩)
        | (at_builtin; refine append_new (.tmp 7) (.tmp 11) rfl rfl _ _ _ (sb k) rfl rfl HO.out rfl (sb_lt e0) (by simp; omega) HB.out.size ?_; intro v1 w1 ho1 hg1 ha1))
      have hb1 : Below w.heap.size w w1 := below_of_append HB.out HO.out hg1 HB.out.size (Nat.le_refl _)
      have HO1 := Lib.hid ho1
      have HB1 := Lib.hid hb1
      clear ho1 hg1 ha1 hb1 HO HB
      go_wp2
      go_roundw
      case rel => exact ⟨k + 1, by omega, by go_num, by rw [range_snoc]; exact HO1.out, HB1.out⟩
      case measure => simp [intOf]; omega
    · obtain rfl : k = 256 := by omega
      go_wp2
      go_ret
      exact ⟨_, rfl, HO.out, HB.out⟩

def rowL (a b n : Nat) : List Nat := (List.range n).map fun i => (a + i * b) % 256
end Go.Proofs.Ytmldpamkghdohaa
