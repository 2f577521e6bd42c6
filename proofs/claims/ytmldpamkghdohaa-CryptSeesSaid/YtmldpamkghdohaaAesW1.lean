/-
  THE WALKS OF THE AES CHAPTER's SCALAR FUNCTIONS: each Go function computes the plain function of the same name. Conditions: the arguments are bytes.
-/
import Derived.Test.YtmldpamkghdohaaAesSpec2
import Derived.Test.YtmldpamkghdohaaProg
import Derived.WalkKit
import Derived.WalkSpells
import Derived.WalkLawsBesides
import Derived.Lib.Hide
import Derived.Outline
namespace Go.Proofs.Ytmldpamkghdohaa
open Go.RowKit
set_option linter.unusedSimpArgs false
set_option linter.unusedVariables false

theorem byte_and1 (b : Nat) (hb : b < 256) : bits BinOp.and IntKind.u8 (b : Int) 1 = ((b % 2 : Nat) : Int) := by
  rw [show (1 : Int) = ((1 : Nat) : Int) from rfl, u8_and_nat _ _ hb (by omega), nat_mask1]
theorem byte_and128 (a : Nat) (h1 : a < 256) : bits BinOp.and IntKind.u8 (a : Int) 128 = ((if 128 ≤ a then 128 else 0 : Nat) : Int) := by
  rw [show (128 : Int) = ((128 : Nat) : Int) from rfl, u8_and_nat _ _ h1 (by omega), and128 _ h1]
theorem byte_xor27 (a : Nat) : bits BinOp.xor IntKind.u8 ((a : Int) * 2 % 256) 27 = (((a * 2 % 256) ^^^ 27 : Nat) : Int) := by
  rw [show (27 : Int) = ((27 : Nat) : Int) from rfl, show ((a : Int) * 2 % 256) = ((a * 2 % 256 : Nat) : Int) by omega, u8_xor_nat _ _ (by omega) (by omega)]

set_option maxHeartbeats 400000 in
theorem times_any (a b : Nat) (ha : a < 256) (hb : b < 256) (w : World) :
    Calls Try.prog 40 #[.int .u8 a, .int .u8 b] w fun e w' => e = .returned (.int .u8 (tm a b)) ∧ w = w' := by
  unfold tm
  go_enter Try.func40, Try.ntmps40
  go_wp2
  go_loop [0, 1, 5] (fun x y p => ∃ (f a' b' p' : Nat), a' < 256 ∧ p' < 256 ∧ b' < 2 ^ f ∧ f ≤ 8 ∧ x = .int .u8 a' ∧ y = .int .u8 b' ∧ p = .int .u8 p' ∧ tmF f p' a' b' = tmF 8 0 a b) (fun _ y _ => (intOf y).toNat)
  case atStart => exact ⟨8, a, b, 0, by omega, by omega, by omega, by omega, rfl, rfl, rfl, rfl⟩
  case round =>
    obtain ⟨f, a', b', p', h1, h2, h3, h4, rfl, rfl, rfl, h5⟩ := hrel
    have H5 := Lib.hid h5
    clear h5
    have hb256 : b' < 256 := Nat.lt_of_lt_of_le h3 (Nat.pow_le_pow_right (by omega) h4)
    have k1 := byte_and1 b' hb256
    have k2 := byte_and128 a' h1
    have k3 : bits BinOp.xor IntKind.u8 (p' : Int) (a' : Int) = ((p' ^^^ a' : Nat) : Int) := u8_xor_nat _ _ h2 h1
    have k4 := byte_xor27 a'
    have q1 : p' ^^^ a' < 256 := xor_lt8 h2 h1
    have q2 : (a' * 2 % 256) ^^^ 27 < 256 := xor_lt8 (by omega) (by omega)
    by_cases e0 : b' = 0
    · subst e0
      go_wp2
      go_ret
      exact ⟨by rw [← H5.out, tmF_zero]; rfl, rfl⟩
    · obtain ⟨f, rfl⟩ : ∃ g, f = g + 1 := ⟨f - 1, by cases f with | zero => simp at h3; omega | succ f => rfl⟩
      have hb1 : 0 < b' := by omega
      clear e0
      have H3 : b' / 2 < 2 ^ f := by rw [Nat.pow_succ] at h3; omega
      have H5' := H5.out
      rw [tmF_succ] at H5'
      rcases Nat.mod_two_eq_zero_or_one b' with c1 | c1 <;> by_cases c2 : 128 ≤ a'
      all_goals
        have H6 := Lib.hid H5'
        clear H5'
        have C1 := Lib.hid c1
        simp only [c1, c2, if_true, if_false] at k1 k2
        clear c1
        go_wp2
        go_round
        case rel =>
          refine ⟨f, xt a', b' / 2, p' ^^^ (a' * (b' % 2)), xt_lt h1, ?_, H3, by omega, ?_, by go_num, ?_, H6.out⟩
          · rcases Nat.mod_two_eq_zero_or_one b' with h | h <;> rw [h] <;> simp [h2, q1]
          · first | (rw [xt_hi h1 c2]) | (rw [xt_lo c2]; go_num)
          · rw [C1.out]; simp
        case measure => simp [intOf]; omega

/-! ### The reference's product -/
theorem ofInt_i64' (a : Nat) (ha : a < 9223372036854775808) : (BitVec.ofInt 64 (a : Int)).toNat = a := by
  rw [BitVec.ofInt_natCast, BitVec.toNat_ofNat]; exact Nat.mod_eq_of_lt (by omega)
theorem i64_and1 (x : Nat) (hx : x < 9223372036854775808) : bits BinOp.and IntKind.i64 (x : Int) 1 = ((x % 2 : Nat) : Int) := by
  rw [show (1 : Int) = ((1 : Nat) : Int) from rfl]
  show IntKind.i64.wrap ((BitVec.ofInt 64 (x : Int) &&& BitVec.ofInt 64 ((1 : Nat) : Int)).toNat : Int) = _
  rw [BitVec.toNat_and, ofInt_i64' x hx, ofInt_i64' 1 (by omega), IntKind.wrap_i64, nat_mask1]
  omega
theorem i64_xor_nat (a b : Nat) (ha : a < 9223372036854775808) (hb : b < 9223372036854775808) : bits .xor .i64 (a : Int) (b : Int) = ((a ^^^ b : Nat) : Int) := by
  have hx : a ^^^ b < 2 ^ 63 := Nat.xor_lt_two_pow (by omega) (by omega)
  show IntKind.i64.wrap ((BitVec.ofInt 64 (a : Int) ^^^ BitVec.ofInt 64 (b : Int)).toNat : Int) = _
  rw [BitVec.toNat_xor, ofInt_i64' a ha, ofInt_i64' b hb, IntKind.wrap_i64]
  omega

set_option maxHeartbeats 400000 in
theorem rtimes_any (a b : Nat) (ha : a < 256) (hb : b < 256) (w : World) :
    Calls Try.prog 71 #[.int .u8 a, .int .u8 b] w fun e w' => e = .returned (.int .u8 (rtm a b)) ∧ w = w' := by
  unfold rtm
  go_enter Try.func71, Try.ntmps71
  go_wp2
  go_loop [5, 6] (fun p i => ∃ (f k p' : Nat), k + f = 8 ∧ p' < 65536 ∧ i = .int .i64 k ∧ p = .int .i64 p' ∧ polF f k a b p' = polF 8 0 a b 0) (fun _ i => 8 - (intOf i).toNat)
  case atStart => exact ⟨8, 0, 0, by omega, by omega, rfl, rfl, rfl⟩
  case round =>
    obtain ⟨f, k, p', h1, h2, rfl, rfl, h5⟩ := hrel
    have H5 := Lib.hid h5
    have H1 := Lib.hid h1
    clear h5 h1
    have hk : k ≤ 8 := by have := H1.out; omega
    by_cases e0 : k < 8
    · obtain ⟨f, rfl⟩ : ∃ g, f = g + 1 := ⟨f - 1, by have := H1.out; omega⟩
      have hp : 2 ^ k ≤ 2 ^ 7 := Nat.pow_le_pow_right (by omega) (by omega)
      have ha2 : a * 2 ^ k ≤ 255 * 2 ^ 7 := Nat.mul_le_mul (by omega) hp
      have k1 : bits BinOp.and IntKind.i64 ((b : Int) / 2 ^ k) 1 = ((b / 2 ^ k % 2 : Nat) : Int) := by
        have := i64_and1 (b / 2 ^ k) (by have := Nat.div_le_self b (2 ^ k); omega)
        simpa using this
      have k2 : wrap64 ((a : Int) * 2 ^ k) = ((a * 2 ^ k : Nat) : Int) := by
        have := IntWalk.wrap64_in ((a * 2 ^ k : Nat) : Int) ⟨by omega, by omega⟩
        simpa using this
      have k3 : bits BinOp.xor IntKind.i64 (p' : Int) (wrap64 ((a : Int) * 2 ^ k)) = ((p' ^^^ (a * 2 ^ k) : Nat) : Int) := by
        rw [k2, i64_xor_nat _ _ (by omega) (by omega)]
      clear k2
      have q1 : p' ^^^ (a * 2 ^ k) < 65536 := Nat.xor_lt_two_pow (n := 16) h2 (by omega)
      have H5' := H5.out
      rw [polF_succ] at H5'
      have H6 := Lib.hid H5'
      clear H5' hp ha2 H5
      rcases Nat.mod_two_eq_zero_or_one (b / 2 ^ k) with c1 | c1
      all_goals
        have C1 := Lib.hid c1
        simp only [c1] at k1
        clear c1
        go_wp2
        go_round
        case rel =>
          refine ⟨f, k + 1, p' ^^^ (a * 2 ^ k * (b / 2 ^ k % 2)), by have := H1.out; omega, ?_, by go_num, ?_, H6.out⟩
          · rw [C1.out]; simp [h2, q1]
          · rw [C1.out]; simp
        case measure => simp [intOf]; omega
    · obtain rfl : k = 8 := by omega
      obtain rfl : f = 0 := by have := H1.out; omega
      clear H1
      have H6 : Hid (p' = polF 8 0 a b 0) := H5.out
      clear H5
      go_wp2
      go_loop [5, 7] (fun p i => ∃ (f p' : Nat), f ≤ 7 ∧ p' < 65536 ∧ i = .int .i64 (f + 7 : Nat) ∧ p = .int .i64 p' ∧ redF f p' = redF 7 (polF 8 0 a b 0)) (fun _ i => (intOf i).toNat)
      case atStart => exact ⟨7, p', by omega, h2, rfl, rfl, by rw [H6.out]⟩
      case round =>
        clear H6 h2
        obtain ⟨f, p', h1, h2, rfl, rfl, h5⟩ := hrel
        have H5 := Lib.hid h5
        clear h5
        by_cases e0 : f = 0
        · subst e0
          go_wp2
          go_ret
          refine ⟨?_, rfl⟩
          rw [← H5.out]
          simp [redF]
        · obtain ⟨f, rfl⟩ : ∃ g, f = g + 1 := ⟨f - 1, by omega⟩
          clear e0
          have hp : 2 ^ f ≤ 2 ^ 6 := Nat.pow_le_pow_right (by omega) (by omega)
          have H5' := H5.out
          rw [redF_succ] at H5'
          have H6 := Lib.hid H5'
          clear H5' H5
          have hf2 : 283 * 2 ^ f ≤ 283 * 2 ^ 6 := Nat.mul_le_mul (by omega) hp
          have k1 : bits BinOp.and IntKind.i64 ((p' : Int) / 2 ^ (f + 1 + 7)) 1 = ((p' / 2 ^ (f + 8) % 2 : Nat) : Int) := by
            have := i64_and1 (p' / 2 ^ (f + 8)) (by have := Nat.div_le_self p' (2 ^ (f + 8)); omega)
            simpa [show f + 1 + 7 = f + 8 by omega] using this
          have k3 : bits BinOp.xor IntKind.i64 (p' : Int) (wrap64 (283 * 2 ^ f)) = ((p' ^^^ (283 * 2 ^ f) : Nat) : Int) := by
            have := IntWalk.wrap64_in ((283 * 2 ^ f : Nat) : Int) ⟨by omega, by omega⟩
            rw [show ((283 : Int) * 2 ^ f) = ((283 * 2 ^ f : Nat) : Int) by simp, this, i64_xor_nat _ _ (by omega) (by omega)]
          have q1 : p' ^^^ (283 * 2 ^ f) < 65536 := Nat.xor_lt_two_pow (n := 16) h2 (by omega)
          clear hp hf2
          rcases Nat.mod_two_eq_zero_or_one (p' / 2 ^ (f + 8)) with c1 | c1
          all_goals
            have C1 := Lib.hid c1
            simp only [c1] at k1
            clear c1
            go_wp2
            go_round
            case rel =>
              refine ⟨f, p' ^^^ (283 * 2 ^ f * (p' / 2 ^ (f + 8) % 2)), by omega, ?_, by go_num, ?_, H6.out⟩
              · rw [C1.out]; simp [h2, q1]
              · rw [C1.out]; simp
            case measure => simp [intOf]; omega

/-! ### bits.RotateLeft8, the inverse, Sub, Back -/
theorem shr_lt8 {x : Nat} (k : Nat) (hx : x < 256) : x / 2 ^ k < 256 := Nat.lt_of_le_of_lt (Nat.div_le_self _ _) hx
set_option maxHeartbeats 400000 in
theorem rot8_any (x k : Nat) (hx : x < 256) (hk : k ≤ 7) (w : World) :
    Calls Try.prog 68 #[.int .u8 x, .int .i64 k] w fun e w' => e = .returned (.int .u8 (rot8 x k)) ∧ w = w' := by
  have k1 : bits BinOp.and IntKind.u64 (k : Int) 7 = (k : Int) := by
    rw [show (7 : Int) = ((7 : Nat) : Int) from rfl, u64_and_nat _ _ (by omega) (by omega), nat_mask3, Nat.mod_eq_of_lt (by omega)]
  have k2 : bits BinOp.or IntKind.u8 ((x : Int) * 2 ^ k % 256) ((x : Int) / 2 ^ (8 - k)) = ((rot8 x k : Nat) : Int) := by
    have := u8_or_nat (x * 2 ^ k % 256) (x / 2 ^ (8 - k)) (by omega) (shr_lt8 _ hx)
    unfold rot8
    simpa using this
  go_enter Try.func68, Try.ntmps68
  go_wp2
  go_ret
  exact ⟨rfl, rfl⟩

end Go.Proofs.Ytmldpamkghdohaa
