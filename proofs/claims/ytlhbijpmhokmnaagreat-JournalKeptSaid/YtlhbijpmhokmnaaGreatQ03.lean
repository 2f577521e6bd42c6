/-
  THE WALKS OF digest's scalar functions: prime, cubes, root, turns; of math/bits' Mul64, Add64, RotateLeft32; ref03's right. Conditions: the arguments are in range.
  THE WALKS OF math/bits.RotateLeft32, digest.turns, digest.New, ref03's right. Conditions: the arguments are in range.
-/
import Derived.Test.YtlhbijpmhokmnaaGreatQ02
import Derived.WalkSpells
import Derived.WalkLawsBesides
import Derived.Lib.Hide
import Derived.Outline
import Derived.Lib.Mul64
import Derived.Laws.BitsAllLaws
import Derived.Laws.Externs
namespace Go.Proofs.YtlhbijpmhokmnaaGreat
open Go.RowKit
set_option linter.unusedSimpArgs false
set_option linter.unusedVariables false

/-- Is a number prime? -/
def primeF : Nat → Nat → Nat → Bool
  | 0, _, _ => true
  | f + 1, n, d => if d * d ≤ n then (if n % d = 0 then false else primeF f n (d + 1)) else true
def primeB (n : Nat) : Bool := primeF 20 n 2
theorem maskN (a : Nat) (ha : a < 18446744073709551616) : bits BinOp.and IntKind.u64 (a : Int) 4294967295 = ((a % 4294967296 : Nat) : Int) := by
  have h := u64_and_nat a 4294967295 ha (by omega)
  have e : a &&& 4294967295 = a % 4294967296 := Nat.and_two_pow_sub_one_eq_mod a 32
  rw [e] at h
  exact h
theorem divN (a : Nat) : (a : Int) / 4294967296 = ((a / 4294967296 : Nat) : Int) := by omega
theorem mulN (a b : Nat) : (a : Int) * (b : Int) = ((a * b : Nat) : Int) := (Int.natCast_mul a b).symm
theorem addN (a b : Nat) : (a : Int) + (b : Int) = ((a + b : Nat) : Int) := (Int.natCast_add a b).symm
theorem wrapN (a : Nat) (ha : a < 18446744073709551616) : IntKind.u64.wrap (a : Int) = (a : Int) := by rw [IntKind.wrap_u64]; omega
theorem wrapM (a : Nat) : IntKind.u64.wrap (a : Int) = ((a % 18446744073709551616 : Nat) : Int) := by rw [IntKind.wrap_u64]; omega
set_option maxHeartbeats 400000 in
theorem prime_any (n : Nat) (hn : n ≤ 400) (w : World) : Calls Tryz.prog 114 #[.int .i64 n] w fun e w' => e = .returned (.bool (primeB n)) ∧ w = w' := by
  unfold primeB
  go_enter Tryz.func114, Tryz.ntmps114
  go_wp2
  go_loop [3] (fun x => ∃ (f d : Nat), d + f = 22 ∧ 2 ≤ d ∧ x = .int .i64 d ∧ primeF f n d = primeF 20 n 2) (fun x => 22 - (intOf x).toNat)
  case atStart => exact ⟨20, 2, by omega, by omega, rfl, rfl⟩
  case round =>
    obtain ⟨f, d, h1, h2, rfl, h3⟩ := hrel
    have H3 := Lib.hid h3
    have H1 := Lib.hid h1
    clear h3 h1
    have hd : d ≤ 22 := by have := H1.out; omega
    have hdd : d * d ≤ 22 * 22 := Nat.mul_le_mul hd hd
    have k1 : wrap64 ((d : Int) * d) = ((d * d : Nat) : Int) := by
      have := IntWalk.wrap64_in ((d * d : Nat) : Int) ⟨by omega, by omega⟩
      simpa using this
    have hc : ((d * d : Nat) : Int) ≤ n ↔ d * d ≤ n := by omega
    have km : (n : Int).tmod d = ((n % d : Nat) : Int) := by rw [Int.tmod_eq_emod_of_nonneg (by omega)]; omega
    have H3' := H3.out
    by_cases e0 : d * d ≤ n
    · have hd2 : d ≤ 20 := by
        rcases Nat.lt_or_ge 20 d with h | h
        · have := Nat.mul_le_mul h h; omega
        · exact h
      have e0' : ((d * d : Nat) : Int) ≤ n := by omega
      obtain ⟨f, rfl⟩ : ∃ g, f = g + 1 := ⟨f - 1, by
        have := H1.out
        have h5 : f ≠ 0 := by
          rintro rfl
          have : d = 22 := by omega
          subst this
          omega
        omega⟩
      rw [primeF, if_pos e0] at H3'
      by_cases e1 : n % d = 0
      · have k2 : ((n : Int).tmod d == 0) = true := by rw [km, e1]; rfl
        rw [if_pos e1] at H3'
        have H4 := Lib.hid H3'
        clear H3 H3' hc hdd
        go_wp2
        go_ret
        exact ⟨by rw [← H4.out]; rfl, rfl⟩
      · have k2 : ((n : Int).tmod d == 0) = false := by rw [km, beq_eq_false_iff_ne]; intro e; exact e1 (by exact_mod_cast e)
        rw [if_neg e1] at H3'
        have H4 := Lib.hid H3'
        clear H3 H3' hc hdd
        go_wp2
        go_round
        case rel => exact ⟨f, d + 1, by have := H1.out; omega, by omega, by go_num, H4.out⟩
        case measure => simp [intOf]; omega
    · have e0' : ¬ ((d * d : Nat) : Int) ≤ n := by omega
      have H4 : Hid (primeF f n d = true) := by
        cases f with
        | zero => rfl
        | succ f => show primeF (f + 1) n d = true; rw [primeF, if_neg e0]
      have H5 := Lib.hid (H4.out.symm.trans H3.out)
      have k3 : decide ((d : Int) * d ≤ n) = false := by rw [mulN]; exact decide_eq_false e0'
      clear H3 H3' hc hdd
      go_wp2
      go_ret
      exact ⟨by rw [← H5.out]; rfl, rfl⟩

set_option maxHeartbeats 1000000 in
/-- The kit's contract for bits.Mul64, at this program (its walk is that of the kit's shelf). -/
theorem mul64_any (x y : Nat) (hx : x < 18446744073709551616) (hy : y < 18446744073709551616) (w : World) :
    Calls Tryz.prog 118 #[.int .u64 x, .int .u64 y] w fun e w' => e = .returned (.tuple #[.int .u64 ((x * y / 18446744073709551616 : Nat) : Int), .int .u64 ((x * y % 18446744073709551616 : Nat) : Int)]) ∧ w = w' := by
  obtain ⟨bd, bt, bw, hhi⟩ := Lib.mul64_hi x y hx hy
  have ba := Lib.half_mul_le (a := x / 4294967296) (b := y / 4294967296) (by omega) (by omega)
  have bb := Lib.half_mul_le (a := x / 4294967296) (b := y % 4294967296) (by omega) (by omega)
  have bc := Lib.half_mul_le (a := x % 4294967296) (b := y / 4294967296) (by omega) (by omega)
  have ba' : x / 4294967296 * (y / 4294967296) < 18446744073709551616 := by omega
  have bb' : x / 4294967296 * (y % 4294967296) < 18446744073709551616 := by omega
  have bc' : x % 4294967296 * (y / 4294967296) < 18446744073709551616 := by omega
  have bh1 : x / 4294967296 * (y / 4294967296) + (x / 4294967296 * (y % 4294967296) + x % 4294967296 * (y % 4294967296) / 4294967296) / 4294967296 < 18446744073709551616 := by omega
  have bh : x / 4294967296 * (y / 4294967296) + (x / 4294967296 * (y % 4294967296) + x % 4294967296 * (y % 4294967296) / 4294967296) / 4294967296 + ((x / 4294967296 * (y % 4294967296) + x % 4294967296 * (y % 4294967296) / 4294967296) % 4294967296 + x % 4294967296 * (y / 4294967296)) / 4294967296 < 18446744073709551616 := by omega
  go_enter Tryz.func118, Tryz.ntmps118
  go_wp2
  simp only [maskN x hx, maskN y hy, divN, mulN, addN, wrapN _ bd, wrapN _ bb', wrapN _ bt, maskN _ bt, wrapN _ bc', wrapN _ bw, wrapN _ ba', wrapN _ bh1, wrapN _ bh, wrapM (x * y)]
  rw [hhi]
  go_ret2
  exact ⟨rfl, rfl⟩
theorem add64_run (x y : Nat) (w : World) :
    (callFunc 120 #[.int .u64 x, .int .u64 y, .int .u64 0]).run Tryz.prog w =
      .ok (.value (.tuple #[.int .u64 (((x + y) % 18446744073709551616 : Nat) : Int), .int .u64 (((x + y) / 18446744073709551616 : Nat) : Int)])) w := by
  rw [run_callFunc_extern Tryz.func120 (by kernel_rfl) (by kernel_rfl) (by kernel_rfl) (e := add64Entry) (by kernel_rfl), run_add64 x y 0 (by omega) (by omega) (by omega) (by omega)]
  simp only [Result.andThen]
  congr 5 <;> omega

set_option maxHeartbeats 1000000 in
theorem cubes_any (hi lo y p : Nat) (hhi : hi < 2048) (hlo : lo < 18446744073709551616) (hy : y < 137438953472) (hp : p ≤ 400) (w : World) :
    Calls Tryz.prog 119 #[.int .u64 hi, .int .u64 lo, .int .u64 y, .int .u64 p] w fun e w' => e = .returned (.bool (decide (p * 79228162514264337593543950336 < (hi * 18446744073709551616 + lo) * y))) ∧ w = w' := by
  have hly : lo * y < 18446744073709551616 * 137438953472 := by
    have h1 : lo * y ≤ lo * 137438953472 := Nat.mul_le_mul_left _ (by omega)
    omega
  have hhy : hi * y ≤ 2047 * 137438953471 := Nat.mul_le_mul (by omega) (by omega)
  obtain ⟨Q, hQ⟩ : ∃ Q, Q = lo * y := ⟨_, rfl⟩
  obtain ⟨D, hD⟩ : ∃ D, D = hi * y := ⟨_, rfl⟩
  have e0 : (hi * 18446744073709551616 + lo) * y = D * 18446744073709551616 + Q := by rw [hQ, hD, Nat.add_mul, Nat.mul_right_comm]
  rw [e0]
  rw [← hQ] at hly
  rw [← hD] at hhy
  have HQ := Lib.hid hQ
  have HD := Lib.hid hD
  obtain ⟨A, hA⟩ : ∃ A, A = Q / 18446744073709551616 := ⟨_, rfl⟩
  obtain ⟨B, hB⟩ : ∃ B, B = Q % 18446744073709551616 := ⟨_, rfl⟩
  obtain ⟨M, hM⟩ : ∃ M, M = (A + D) % 18446744073709551616 := ⟨_, rfl⟩
  obtain ⟨C, hC⟩ : ∃ C, C = (A + D) / 18446744073709551616 := ⟨_, rfl⟩
  have kr := add64_run A D
  rw [← hM, ← hC] at kr
  have bM : M < 18446744073709551616 := by omega
  have bC : C < 2 := by omega
  have bB : B < 18446744073709551616 := by omega
  have key : (p * 79228162514264337593543950336 < D * 18446744073709551616 + Q) ↔ (C ≠ 0 ∨ (C = 0 ∧ (p * 4294967296 < M ∨ (M = p * 4294967296 ∧ 0 < B)))) := by omega
  have HK := Lib.hid key
  have HA := Lib.hid hA
  have HB := Lib.hid hB
  clear hQ hD e0 key hA hB hM hC
  have e3 : decide (p * 79228162514264337593543950336 < D * 18446744073709551616 + Q) = decide (C ≠ 0 ∨ (C = 0 ∧ (p * 4294967296 < M ∨ (M = p * 4294967296 ∧ 0 < B)))) := decide_eq_decide.2 HK.out
  rw [e3]
  go_enter Tryz.func119, Tryz.ntmps119
  go_wp2_with fail
  refine (mul64_any lo y hlo (by omega) w).mono ?_
  rintro e w' ⟨rfl, rfl⟩
  rw [← HQ.out, ← HA.out, ← HB.out]
  go_wp2_with fail
  refine (mul64_any hi y (by omega) (by omega) w).mono ?_
  rintro e w' ⟨rfl, rfl⟩
  rw [← HD.out]
  have d1 : D / 18446744073709551616 = 0 := by omega
  have d2 : D % 18446744073709551616 = D := by omega
  rw [d1, d2]
  have p0 : (p : Int) / 4294967296 = 0 := by omega
  have p1 : IntKind.u64.wrap ((p : Int) * 4294967296) = p * 4294967296 := by rw [IntKind.wrap_u64]; omega
  clear d1 d2
  by_cases c0 : C = 0
  · subst c0
    by_cases c1 : M = p * 4294967296
    · have c2 : ((M : Int) != p * 4294967296) = false := by rw [c1]; simp
      go_wp2
      go_ret
      refine ⟨congrArg (fun b => Ending.returned (Value.bool b)) (decide_eq_decide.2 ?_), rfl⟩
      omega
    · have c2 : ((M : Int) != p * 4294967296) = true := by rw [bne_iff_ne]; omega
      go_wp2
      go_ret
      refine ⟨congrArg (fun b => Ending.returned (Value.bool b)) (decide_eq_decide.2 ?_), rfl⟩
      omega
  · have c2 : ((C : Int) != 0) = true := by rw [bne_iff_ne]; omega
    have c3 : (0 : Int) < C := by omega
    go_wp2
    go_ret
    refine ⟨congrArg (fun b => Ending.returned (Value.bool b)) (decide_eq_decide.2 ?_), rfl⟩
    omega

/-- The first bits of a root. -/
def rootT (p : Nat) (cube : Bool) (y : Nat) : Bool := if cube = true then decide (y * y * y ≤ p * 79228162514264337593543950336) else decide (y * y ≤ p * 18446744073709551616)
def rootF : Nat → Nat → Bool → Nat → Nat
  | 0, _, _, x => x
  | b + 1, p, cube, x => frc (x ||| 2 ^ b) fun y => rootF b p cube (if rootT p cube y = true then y else x)
theorem rootF_succ (b p : Nat) (cube : Bool) (x : Nat) : rootF (b + 1) p cube x = rootF b p cube (if rootT p cube (x ||| 2 ^ b) = true then x ||| 2 ^ b else x) := by rw [rootF, frc_eq]
def rootN (p : Nat) (cube : Bool) : Nat := rootF 37 p cube 0 % 4294967296
set_option maxHeartbeats 2000000 in
theorem root_any (p : Nat) (hp : p ≤ 400) (cube : Bool) (w : World) : Calls Tryz.prog 115 #[.int .u64 p, .bool cube] w fun e w' => e = .returned (.int .u32 (rootN p cube)) ∧ w = w' := by
  unfold rootN
  go_enter Tryz.func115, Tryz.ntmps115
  go_wp2
  go_loop [5, 6] (fun x b => ∃ (x' b' : Nat), x' < 137438953472 ∧ b' ≤ 37 ∧ x = .int .u64 x' ∧ b = .int .i64 ((b' : Int) - 1) ∧ rootF b' p cube x' = rootF 37 p cube 0) (fun _ b => (intOf b + 1).toNat)
  case atStart => exact ⟨0, 37, by omega, by omega, rfl, rfl, rfl⟩
  case round =>
    obtain ⟨x, b, h1, h2, rfl, rfl, h5⟩ := hrel
    have H5 := Lib.hid h5
    clear h5
    by_cases e0 : b = 0
    · subst e0
      go_wp2
      go_ret
      exact ⟨by rw [← H5.out]; rfl, rfl⟩
    · obtain ⟨b, rfl⟩ : ∃ c, b = c + 1 := ⟨b - 1, by omega⟩
      have hb2 : 2 ^ b < 137438953472 := Nat.lt_of_le_of_lt (Nat.pow_le_pow_right (by omega) (show b ≤ 36 by omega)) (by decide)
      obtain ⟨y, hy⟩ : ∃ y, y = x ||| 2 ^ b := ⟨_, rfl⟩
      have hyl : y < 137438953472 := by rw [hy]; exact Nat.or_lt_two_pow (n := 37) h1 hb2
      have kb : IntKind.u64.wrap ((2 : Int) ^ b) = ((2 ^ b : Nat) : Int) := by
        have := wrapN (2 ^ b) (by omega)
        simpa using this
      have kc : ((b + 1 : Nat) : Int) - 1 = b := by omega
      have ko : bits .or .u64 (x : Int) ((2 : Int) ^ b) = (y : Int) := by
        have := u64_or_nat x (2 ^ b) (by omega) (by omega)
        rw [← hy] at this
        simpa using this
      have H6 := H5.out
      rw [rootF_succ, ← hy] at H6
      have H7 := Lib.hid H6
      have HY := Lib.hid hy
      clear H5 H6 hy
      rw [kc]
      have hyy : y * y ≤ 137438953471 * 137438953471 := Nat.mul_le_mul (by omega) (by omega)
      obtain ⟨hi, hhi⟩ : ∃ h, h = y * y / 18446744073709551616 := ⟨_, rfl⟩
      obtain ⟨lo, hlo⟩ : ∃ l, l = y * y % 18446744073709551616 := ⟨_, rfl⟩
      have hs : hi * 18446744073709551616 + lo = y * y := by rw [hhi, hlo]; omega
      have bhi : hi < 2048 := by rw [hhi]; omega
      have blo : lo < 18446744073709551616 := by rw [hlo]; omega
      have HH := Lib.hid hhi
      have HL := Lib.hid hlo
      have HS := Lib.hid hs
      clear hhi hlo hs hyy
      clear kc
      go_wp2_with fail
      refine (mul64_any y y (by omega) (by omega) w).mono ?_
      rintro e w' ⟨rfl, rfl⟩
      rw [← HH.out, ← HL.out]
      by_cases hr : rootT p cube y = true
      all_goals
        have HR := Lib.hid hr
        have H8 := H7.out
        first
          | rw [if_pos hr] at H8
          | rw [if_neg hr] at H8
        have H9 := Lib.hid H8
        clear hr H8 H7
        cases cube
        · have hc : y * y ≤ p * 18446744073709551616 ↔ hi < p ∨ (hi = p ∧ lo = 0) := by have := HS.out; omega
          have hT : rootT p false y = decide (hi < p ∨ (hi = p ∧ lo = 0)) := decide_eq_decide.2 hc
          have hR := HR.out
          rw [hT, decide_eq_true_iff] at hR
          have k5 : (hi : Int) = p ↔ hi = p := by omega
          have k6 : (lo : Int) = 0 ↔ lo = 0 := by omega
          clear hT hc
          go_wp2
          all_goals
            first
              | (exfalso; omega)
              | (go_round
                 case rel => exact ⟨_, b, by assumption, by omega, rfl, rfl, H9.out⟩
                 case measure => simp [intOf])
              | (refine ⟨⟨_, b, by assumption, by omega, rfl, rfl, H9.out⟩, ?_⟩
                 simp [intOf])
        · have hc : y * y * y ≤ p * 79228162514264337593543950336 ↔ ¬ p * 79228162514264337593543950336 < (hi * 18446744073709551616 + lo) * y := by rw [HS.out]; omega
          have hT : rootT p true y = decide (¬ p * 79228162514264337593543950336 < (hi * 18446744073709551616 + lo) * y) := decide_eq_decide.2 hc
          have hR := HR.out
          rw [hT, decide_eq_true_iff] at hR
          have HR2 := Lib.hid hR
          clear hR hT hc
          go_wp2_with fail
          refine (cubes_any hi lo y p bhi blo hyl hp w).mono ?_
          rintro e w' ⟨rfl, rfl⟩
          first
            | rw [decide_eq_false HR2.out]
            | rw [decide_eq_true (Decidable.not_not.1 HR2.out)]
          go_wp2
          all_goals
            first
              | (exfalso; omega)
              | (go_round
                 case rel => exact ⟨_, b, by assumption, by omega, rfl, rfl, H9.out⟩
                 case measure => simp [intOf])
              | (refine ⟨⟨_, b, by assumption, by omega, rfl, rfl, H9.out⟩, ?_⟩
                 simp [intOf])
end Go.Proofs.YtlhbijpmhokmnaaGreat
namespace Go.Proofs.YtlhbijpmhokmnaaGreat
open Go.RowKit
set_option linter.unusedSimpArgs false
set_option linter.unusedVariables false

theorem rr_or {x n : Nat} (hx : x < 4294967296) (hn : n ≤ 32) : (x * 2 ^ (32 - n) % 4294967296) ||| (x / 2 ^ n) = rr x n := by
  have h1 : 2 ^ n * 2 ^ (32 - n) = 4294967296 := by rw [← Nat.pow_add, show n + (32 - n) = 32 by omega]
  have h3 : x / 2 ^ n < 2 ^ (32 - n) := by
    rw [Nat.div_lt_iff_lt_mul (Nat.two_pow_pos n), Nat.mul_comm, h1]
    exact hx
  have h2 : x * 2 ^ (32 - n) % 4294967296 = x % 2 ^ n * 2 ^ (32 - n) := by rw [← h1, Nat.mul_mod_mul_right]
  rw [h2, rr, Nat.add_comm, ← Nat.shiftLeft_eq, ← Nat.shiftLeft_add_eq_or_of_lt h3]
set_option maxHeartbeats 1000000 in
theorem rotl_any (x c : Nat) (hx : x < 4294967296) (hc : 1 ≤ c ∧ c ≤ 31) (w : World) :
    Calls Tryz.prog 103 #[.int .u32 x, .int .i64 (-(c : Int))] w fun e w' => e = .returned (.int .u32 (rr x c)) ∧ w = w' := by
  have k1 : bits BinOp.and IntKind.u64 (IntKind.u64.wrap (-(c : Int))) 31 = ((32 - c : Nat) : Int) := by
    have e1 : IntKind.u64.wrap (-(c : Int)) = ((18446744073709551616 - c : Nat) : Int) := by rw [IntKind.wrap_u64]; omega
    rw [e1, show (31 : Int) = ((31 : Nat) : Int) from rfl, u64_and_nat _ _ (by omega) (by omega)]
    have : (18446744073709551616 - c) &&& 31 = (18446744073709551616 - c) % 32 := Nat.and_two_pow_sub_one_eq_mod _ 5
    rw [this]
    omega
  have k2 : ((32 : Int) - ((32 - c : Nat) : Int)) = c := by omega
  go_enter Tryz.func103, Tryz.ntmps103
  go_wp2
  go_ret
  refine ⟨?_, rfl⟩
  have e1 := u32_or_nat (x * 2 ^ (32 - c) % 4294967296) (x / 2 ^ c) (by omega) (Nat.lt_of_le_of_lt (Nat.div_le_self _ _) hx)
  rw [rr_or hx (by omega)] at e1
  rw [← e1]
  congr 2
set_option maxHeartbeats 1000000 in
theorem turns_any (x a b c : Nat) (mv : Bool) (hx : x < 4294967296) (ha : 1 ≤ a ∧ a ≤ 31) (hb : 1 ≤ b ∧ b ≤ 31) (hc : 1 ≤ c ∧ c ≤ 31) (w : World) :
    Calls Tryz.prog 116 #[.int .u32 x, .int .i64 a, .int .i64 b, .int .i64 c, .bool mv] w fun e w' => e = .returned (.int .u32 (rr x a ^^^ rr x b ^^^ (if mv = true then x / 2 ^ c else rr x c) : Nat)) ∧ w = w' := by
  have la := rr_lt hx (show a < 32 by omega)
  have lb := rr_lt hx (show b < 32 by omega)
  have lc := rr_lt hx (show c < 32 by omega)
  have lx : x / 2 ^ c < 4294967296 := Nat.lt_of_le_of_lt (Nat.div_le_self _ _) hx
  have e1 : bits .xor .u32 ((rr x a : Nat) : Int) ((rr x b : Nat) : Int) = ((rr x a ^^^ rr x b : Nat) : Int) := u32_xor_nat _ _ la lb
  have e2 : bits .xor .u32 ((rr x a ^^^ rr x b : Nat) : Int) ((rr x c : Nat) : Int) = ((rr x a ^^^ rr x b ^^^ rr x c : Nat) : Int) := u32_xor_nat _ _ (xor_lt32 la lb) lc
  have e3 : bits .xor .u32 ((rr x a ^^^ rr x b : Nat) : Int) ((x : Int) / 2 ^ c) = ((rr x a ^^^ rr x b ^^^ (x / 2 ^ c) : Nat) : Int) := by
    have := u32_xor_nat _ _ (xor_lt32 la lb) lx
    simpa using this
  have n1 : wrap64 (-(a : Int)) = -(a : Int) := IntWalk.wrap64_in _ ⟨by omega, by omega⟩
  have n2 : wrap64 (-(b : Int)) = -(b : Int) := IntWalk.wrap64_in _ ⟨by omega, by omega⟩
  have n3 : wrap64 (-(c : Int)) = -(c : Int) := IntWalk.wrap64_in _ ⟨by omega, by omega⟩
  have E1 := Lib.hid e1
  have E2 := Lib.hid e2
  have E3 := Lib.hid e3
  clear e1 e2 e3 la lb lc lx
  cases mv
  all_goals
    go_enter Tryz.func116, Tryz.ntmps116
    go_wp2_with fail
    refine (rotl_any x c hx hc w).mono ?_
    rintro e w' ⟨rfl, rfl⟩
    go_wp2_with fail
    refine (rotl_any x a hx ha w).mono ?_
    rintro e w' ⟨rfl, rfl⟩
    go_wp2_with fail
    refine (rotl_any x b hx hb w).mono ?_
    rintro e w' ⟨rfl, rfl⟩
    have e1 := E1.out
    first
      | have e2 := E2.out
      | skip
    have e3 := E3.out
    go_wp2_with fail
    go_ret
    exact ⟨rfl, rfl⟩

/-- The primes; how many lie below. -/
def pL : List Nat := [2, 3, 5, 7, 11, 13, 17, 19, 23, 29, 31, 37, 41, 43, 47, 53, 59, 61, 67, 71, 73, 79, 83, 89, 97, 101, 103, 107, 109, 113, 127, 131, 137, 139, 149, 151, 157, 163, 167, 173, 179, 181, 191, 193, 197, 199, 211, 223, 227, 229, 233, 239, 241, 251, 257, 263, 269, 271, 277, 281, 283, 293, 307, 311]
def cnt (p : Nat) : Nat := (pL.filter (fun q => Nat.blt q p)).length
def hL : List Nat := [0x6a09e667, 0xbb67ae85, 0x3c6ef372, 0xa54ff53a, 0x510e527f, 0x9b05688c, 0x1f83d9ab, 0x5be0cd19]
theorem cnt_step : ∀ p, p < 312 → 2 ≤ p → cnt p < 64 ∧ cnt (p + 1) = (if primeB p = true then cnt p + 1 else cnt p) := by decide +kernel
theorem root_k : ∀ p, p < 312 → 2 ≤ p → primeB p = true → rootN p true = nth kL (cnt p) := by decide +kernel
theorem root_h : ∀ p, p < 312 → 2 ≤ p → primeB p = true → cnt p < 8 → rootN p false = nth hL (cnt p) := by decide +kernel
theorem cnt_end : cnt 312 = 64 := by decide +kernel
theorem cnt_two : cnt 2 = 0 := by decide +kernel
end Go.Proofs.YtlhbijpmhokmnaaGreat
