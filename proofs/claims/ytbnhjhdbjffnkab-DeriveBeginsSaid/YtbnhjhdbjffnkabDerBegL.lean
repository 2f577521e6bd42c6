/-
  WHAT DeriveBegins SAYS, IN PLAIN LEAN; low's Pick. Conditions: each law's own premises.
-/
import Derived.Test.YtbnhjhdbjffnkabDerNumW
namespace Go.Proofs.Ytbnhjhdbjffnkab
open Go.RowKit
set_option linter.unusedSimpArgs false
set_option linter.unusedVariables false

theorem hmac_zeros (K : List Nat) (m : Nat) (h : K.length + m ≤ 64) (b : List Nat) : hmac (K ++ List.replicate m 0) b = hmac K b := by
  have h1 : keyS (K ++ List.replicate m 0) = K ++ List.replicate m 0 := if_neg (by simp; omega)
  have h2 : keyS K = K := if_neg (by omega)
  have h3 : ∀ t, padS (K ++ List.replicate m 0) t = padS K t := fun t => by
    unfold padS
    apply List.map_congr_left
    intro i _
    rw [pad0]
  unfold hmac
  rw [h1, h2, h3, h3]
theorem hmac_long (K : List Nat) (h : 64 < K.length) (b : List Nat) : hmac (sha K) b = hmac K b := by
  have h1 : keyS (sha K) = sha K := if_neg (by rw [sha_length]; omega)
  have h2 : keyS K = sha K := if_pos h
  unfold hmac
  rw [h1, h2]
section
variable {K K' : List Nat} (h : ∀ b, hmac K' b = hmac K b)
include h
theorem uN_congr (s : List Nat) (j : Nat) : uN K' s j = uN K s j := by
  induction j with
  | zero => exact h s
  | succ j ih => rw [uN, uN, h, ih]
theorem blN_congr (s : List Nat) (j : Nat) : blN K' s j = blN K s j := by
  induction j with
  | zero => exact h s
  | succ j ih => rw [blN, blN, ih, uN_congr h]
theorem pbAll_congr (salt : List Nat) (r k : Nat) : pbAll K' salt r k = pbAll K salt r k := by
  induction k with
  | zero => rfl
  | succ k ih => rw [pbAll, pbAll, ih, blN_congr h]
end
theorem pbAll_more (K salt : List Nat) (r k d : Nat) : ∃ rest, pbAll K salt r (k + d) = pbAll K salt r k ++ rest := by
  induction d with
  | zero => exact ⟨[], by simp⟩
  | succ d ih =>
    obtain ⟨rest, e⟩ := ih
    refine ⟨rest ++ blN K (salt ++ [0, 0, 0, k + d + 1]) r, ?_⟩
    rw [← Nat.add_assoc, pbAll, e, List.append_assoc]
theorem pb_begins (K salt : List Nat) (r short long : Nat) (h : short ≤ long) : ((pbAll K salt r ((long + 31) / 32)).take long).take short = (pbAll K salt r ((short + 31) / 32)).take short := by
  obtain ⟨rest, e⟩ := pbAll_more K salt r ((short + 31) / 32) ((long + 31) / 32 - (short + 31) / 32)
  rw [show (short + 31) / 32 + ((long + 31) / 32 - (short + 31) / 32) = (long + 31) / 32 by omega] at e
  rw [List.take_take, Nat.min_eq_left h, e, List.take_append_of_le_length (by rw [pbAll_length]; omega)]
theorem pickn_any (x : Int) (n : Nat) (h1 : 1 ≤ n) (h2 : n ≤ 1000) (w : World) : Calls Try.prog 25 #[.int .i64 x, .int .i64 (n : Nat)] w fun e w' => ∃ k : Nat, e = .returned (.int .i64 k) ∧ k < n ∧ w = w' := by
  have k1 := Int.tmod_lt_of_pos x (show (0 : Int) < n by omega)
  have k2 : -(n : Int) < x.tmod n := by
    have := Int.tmod_lt_of_pos (-x) (show (0 : Int) < n by omega)
    rw [Int.neg_tmod] at this
    omega
  have c1 : ¬ (n : Int) < 1 := by omega
  have c2 : ((n : Int) == 0) = false := by rw [beq_eq_false_iff_ne]; omega
  have c3 : IntKind.i64.wrap (x.tmod n + n) = x.tmod n + n := by simp [IntKind.wrap, IntKind.signed, IntKind.bits]; omega
  have c4 : ¬ n = 0 := by omega
  go_enter Try.func25, Try.ntmps25
  go_wp2_with fail
  go_ret
  have e1 := Int.emod_nonneg (x.tmod n) (show (n : Int) ≠ 0 by omega)
  have e2 := Int.emod_lt_of_pos (x.tmod n) (show (0 : Int) < n by omega)
  generalize x.tmod n % n = y at *
  obtain ⟨k, rfl⟩ : ∃ k : Nat, y = k := ⟨y.toNat, by omega⟩
  exact ⟨k, rfl, by omega, rfl⟩
end Go.Proofs.Ytbnhjhdbjffnkab
