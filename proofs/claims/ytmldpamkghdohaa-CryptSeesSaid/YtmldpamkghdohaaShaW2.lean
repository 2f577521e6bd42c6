/-
  THE WALKS OF math/bits.RotateLeft32, digest.turns, digest.New, ref03's right. Conditions: the arguments are in range.
-/
import Derived.Test.YtmldpamkghdohaaShaW1
namespace Go.Proofs.Ytmldpamkghdohaa
open Go.RowKit
set_option linter.unusedSimpArgs false
set_option linter.unusedVariables false

theorem rr_or {x n : Nat} (hx : x < 4294967296) (hn : n ≤ 32) : (x * 2 ^ (32 - n) % 4294967296) ||| (x / 2 ^ n) = rr x n := by
  have h1 : 2 ^ n * 2 ^ (32 - n) = 4294967296 := by rw [← Nat.pow_add, show n + (32 - n) = 32 by omega]
  have h3 : x / 2 ^ n < 2 ^ (32 - n) := by
    rw [Nat.div_lt_iff_lt_mul (Nat.two_pow_pos n), Nat.mul_comm, h1]
    exact hx
  have h2 : x * 2 ^ (32 - n) % 4294967296 = x % 2 ^ n * 2 ^ (32 - n) := by rw [← h1, Nat.mul_mod_mul_right]
  rw [h2, rr, Nat.add_comm, ← Nat.shiftLeft_eq, ← Nat.shiftLeft_add_eq_or_of_lt h3]
set_option maxHeartbeats 1000000 in
theorem rotl_any (x c : Nat) (hx : x < 4294967296) (hc : 1 ≤ c ∧ c ≤ 31) (w : World) :
    Calls Try.prog 92 #[.int .u32 x, .int .i64 (-(c : Int))] w fun e w' => e = .returned (.int .u32 (rr x c)) ∧ w = w' := by
  have k1 : bits BinOp.and IntKind.u64 (IntKind.u64.wrap (-(c : Int))) 31 = ((32 - c : Nat) : Int) := by
    have e1 : IntKind.u64.wrap (-(c : Int)) = ((18446744073709551616 - c : Nat) : Int) := by rw [IntKind.wrap_u64]; omega
    rw [e1, show (31 : Int) = ((31 : Nat) : Int) from rfl, u64_and_nat _ _ (by omega) (by omega)]
    have : (18446744073709551616 - c) &&& 31 = (18446744073709551616 - c) % 32 := Nat.and_two_pow_sub_one_eq_mod _ 5
    rw [this]
    omega
  have k2 : ((32 : Int) - ((32 - c : Nat) : Int)) = c := by omega
  go_enter Try.func92, Try.ntmps92
  go_wp2
  go_ret
  refine ⟨?_, rfl⟩
  have e1 := u32_or_nat (x * 2 ^ (32 - c) % 4294967296) (x / 2 ^ c) (by omega) (Nat.lt_of_le_of_lt (Nat.div_le_self _ _) hx)
  rw [rr_or hx (by omega)] at e1
  rw [← e1]
  congr 2
set_option maxHeartbeats 1000000 in
theorem turns_any (x a b c : Nat) (mv : Bool) (hx : x < 4294967296) (ha : 1 ≤ a ∧ a ≤ 31) (hb : 1 ≤ b ∧ b ≤ 31) (hc : 1 ≤ c ∧ c ≤ 31) (w : World) :
    Calls Try.prog 89 #[.int .u32 x, .int .i64 a, .int .i64 b, .int .i64 c, .bool mv] w fun e w' => e = .returned (.int .u32 (rr x a ^^^ rr x b ^^^ (if mv = true then x / 2 ^ c else rr x c) : Nat)) ∧ w = w' := by
  have la := rr_lt hx (show a < 32 by omega)
  have lb := rr_lt hx (show b < 32 by omega)
  have lc := rr_lt hx (show c < 32 by omega)
  have lx : x / 2 ^ c < 4294967296 := Nat.lt_of_le_of_lt (Nat.div_le_self _ _) hx
  have e1 : bits .xor .u32 ((rr x a : Nat) : Int) ((rr x b : Nat) : Int) = ((rr x a ^^^ rr x b : Nat) : Int) := u32_xor_nat _ _ la lb
  have e2 : bits .xor .u32 ((rr x a ^^^ rr x b : Nat) : Int) ((rr x c : Nat) : Int) = ((rr x a ^^^ rr x b ^^^ rr x c : Nat) : Int) := u32_xor_nat _ _ (xor_lt32 la lb) lc
  have e3 : bits .xor .u32 ((rr x a ^^^ rr x b : Nat) : Int) ((x : Int) / 2 ^ c) = ((rr x a ^^^ rr x b ^^^ (x / 2 ^ c) : Nat) : Int) := by
    have := u32_xor_nat _ _ (xor_lt32 la lb) lx
    simpa using this
  have n1 : wrap64 (-(a : Int)) = -(a : Int) := IntWalk.wrap64_in _ ⟨by omega, by omega⟩
  have n2 : wrap64 (-(b : Int)) = -(b : Int) := IntWalk.wrap64_in _ ⟨by omega, by omega⟩
  have n3 : wrap64 (-(c : Int)) = -(c : Int) := IntWalk.wrap64_in _ ⟨by omega, by omega⟩
  have E1 := Lib.hid e1
  have E2 := Lib.hid e2
  have E3 := Lib.hid e3
  clear e1 e2 e3 la lb lc lx
  cases mv
  all_goals
    go_enter Try.func89, Try.ntmps89
    go_wp2_with fail
    refine (rotl_any x c hx hc w).mono ?_
    rintro e w' ⟨rfl, rfl⟩
    go_wp2_with fail
    refine (rotl_any x a hx ha w).mono ?_
    rintro e w' ⟨rfl, rfl⟩
    go_wp2_with fail
    refine (rotl_any x b hx hb w).mono ?_
    rintro e w' ⟨rfl, rfl⟩
    have e1 := E1.out
    first
      | have e2 := E2.out
      | skip
    have e3 := E3.out
    go_wp2_with fail
    go_ret
    exact ⟨rfl, rfl⟩

/-- The primes; how many lie below. -/
def pL : List Nat := [2, 3, 5, 7, 11, 13, 17, 19, 23, 29, 31, 37, 41, 43, 47, 53, 59, 61, 67, 71, 73, 79, 83, 89, 97, 101, 103, 107, 109, 113, 127, 131, 137, 139, 149, 151, 157, 163, 167, 173, 179, 181, 191, 193, 197, 199, 211, 223, 227, 229, 233, 239, 241, 251, 257, 263, 269, 271, 277, 281, 283, 293, 307, 311]
def cnt (p : Nat) : Nat := (pL.filter (fun q => Nat.blt q p)).length
def hL : List Nat := [0x6a09e667, 0xbb67ae85, 0x3c6ef372, 0xa54ff53a, 0x510e527f, 0x9b05688c, 0x1f83d9ab, 0x5be0cd19]
theorem cnt_step : ∀ p, p < 312 → 2 ≤ p → cnt p < 64 ∧ cnt (p + 1) = (if primeB p = true then cnt p + 1 else cnt p) := by decide +kernel
theorem root_k : ∀ p, p < 312 → 2 ≤ p → primeB p = true → rootN p true = nth kL (cnt p) := by decide +kernel
theorem root_h : ∀ p, p < 312 → 2 ≤ p → primeB p = true → cnt p < 8 → rootN p false = nth hL (cnt p) := by decide +kernel
theorem cnt_end : cnt 312 = 64 := by decide +kernel
theorem cnt_two : cnt 2 = 0 := by decide +kernel
end Go.Proofs.Ytmldpamkghdohaa
