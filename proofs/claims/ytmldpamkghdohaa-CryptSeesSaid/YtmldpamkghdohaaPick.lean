/-
  low's Pick. Conditions: the bound is at least 1 and no great number.
-/
import Derived.Test.YtmldpamkghdohaaMem
import Derived.Test.YtmldpamkghdohaaProg
namespace Go.Proofs.Ytmldpamkghdohaa
open Go.RowKit
set_option linter.unusedSimpArgs false
set_option linter.unusedVariables false

theorem pickz_any (x : Int) (n : Nat) (h1 : 1 ≤ n) (h2 : n ≤ 4611686018427387904) (w : World) : Calls Try.prog 19 #[.int .i64 x, .int .i64 (n : Nat)] w fun e w' => ∃ k : Nat, e = .returned (.int .i64 k) ∧ k < n ∧ w = w' := by
  have k1 := Int.tmod_lt_of_pos x (show (0 : Int) < n by omega)
  have k2 : -(n : Int) < x.tmod n := by
    have := Int.tmod_lt_of_pos (-x) (show (0 : Int) < n by omega)
    rw [Int.neg_tmod] at this
    omega
  have c1 : ¬ (n : Int) < 1 := by omega
  have c2 : ((n : Int) == 0) = false := by rw [beq_eq_false_iff_ne]; omega
  have c3 : IntKind.i64.wrap (x.tmod n + n) = x.tmod n + n := by simp [IntKind.wrap, IntKind.signed, IntKind.bits]; omega
  have c4 : ¬ n = 0 := by omega
  go_enter Try.func19, Try.ntmps19
  go_wp2_with fail
  go_ret
  have e1 := Int.emod_nonneg (x.tmod n) (show (n : Int) ≠ 0 by omega)
  have e2 := Int.emod_lt_of_pos (x.tmod n) (show (0 : Int) < n by omega)
  generalize x.tmod n % n = y at *
  obtain ⟨k, rfl⟩ : ∃ k : Nat, y = k := ⟨y.toNat, by omega⟩
  exact ⟨k, rfl, by omega, rfl⟩
end Go.Proofs.Ytmldpamkghdohaa
