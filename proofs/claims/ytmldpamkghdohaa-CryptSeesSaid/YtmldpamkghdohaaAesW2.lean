/-
  THE WALKS OF THE AES CHAPTER's SCALAR FUNCTIONS, the second part. Conditions: the arguments are bytes.
-/
import Derived.Test.YtmldpamkghdohaaAesW1
namespace Go.Proofs.Ytmldpamkghdohaa
open Go.RowKit
set_option linter.unusedSimpArgs false
set_option linter.unusedVariables false

set_option maxHeartbeats 400000 in
theorem inverse_any (b : Nat) (hb : b < 256) (w : World) :
    Calls Try.prog 67 #[.int .u8 b] w fun e w' => e = .returned (.int .u8 (inv b)) ∧ w = w' := by
  unfold inv
  go_enter Try.func67, Try.ntmps67
  go_wp2
  go_loop [0, 3, 4] (fun x p e => ∃ (f b' p' e' : Nat), b' < 256 ∧ p' < 256 ∧ e' < 2 ^ f ∧ f ≤ 8 ∧ x = .int .u8 b' ∧ p = .int .u8 p' ∧ e = .int .i64 e' ∧ invF f p' b' e' = invF 8 1 b 254) (fun _ _ e => (intOf e).toNat)
  case atStart => exact ⟨8, b, 1, 254, by omega, by omega, by omega, by omega, rfl, rfl, rfl, rfl⟩
  case round =>
    obtain ⟨f, b', p', e', h1, h2, h3, h4, rfl, rfl, rfl, h5⟩ := hrel
    have H5 := Lib.hid h5
    clear h5
    have he : e' < 256 := Nat.lt_of_lt_of_le h3 (Nat.pow_le_pow_right (by omega) h4)
    by_cases e0 : e' = 0
    · subst e0
      go_wp2
      go_ret
      refine ⟨?_, rfl⟩
      rw [← H5.out, invF_zero]
      rfl
    · obtain ⟨f, rfl⟩ : ∃ g, f = g + 1 := ⟨f - 1, by cases f with | zero => simp at h3; omega | succ f => rfl⟩
      have hb1 : 0 < e' := by omega
      clear e0
      have H3 : e' / 2 < 2 ^ f := by rw [Nat.pow_succ] at h3; omega
      have k1 := i64_and1 e' (by omega)
      have H5' := H5.out
      rw [invF_succ] at H5'
      rcases Nat.mod_two_eq_zero_or_one e' with c1 | c1
      all_goals
        simp only [c1] at k1 H5'
        have H6 := Lib.hid H5'
        clear c1 H5'
        go_wp2_with (first | (go_at_call 40; refine (times_any _ _ (by assumption) (by assumption) _).mono ?_; rintro e w' ⟨rfl, rfl⟩))
        go_round
        case rel => exact ⟨f, tm b' b', _, e' / 2, tm_lt _ _ h1, (by first | exact h2 | exact tm_lt _ _ h2), H3, by omega, rfl, rfl, by go_num, H6.out⟩
        case measure => simp [intOf]; omega

set_option maxHeartbeats 400000 in
theorem sub_any (b : Nat) (hb : b < 256) (w : World) :
    Calls Try.prog 38 #[.int .u8 b] w fun e w' => e = .returned (.int .u8 (sb b)) ∧ w = w' := by
  have hc := inv_lt hb
  rw [sb_def]
  go_enter Try.func38, Try.ntmps38
  go_wp2_with (first | (go_at_call 67; refine (inverse_any _ hb _).mono ?_; rintro e w' ⟨rfl, rfl⟩))
  go_loop [4, 8] (fun s i => ∃ (f k s' : Nat), k + f = 5 ∧ s' < 256 ∧ i = .int .i64 k ∧ s = .int .u8 s' ∧ sbF f k (inv b) s' = sbF 5 0 (inv b) 99) (fun _ i => 5 - (intOf i).toNat)
  case atStart => exact ⟨5, 0, 99, by omega, by omega, rfl, rfl, rfl⟩
  case round =>
    obtain ⟨f, k, s', h1, h2, rfl, rfl, h5⟩ := hrel
    have H5 := Lib.hid h5
    have H1 := Lib.hid h1
    clear h5 h1
    have hk : k ≤ 5 := by have := H1.out; omega
    by_cases e0 : k < 5
    · obtain ⟨f, rfl⟩ : ∃ g, f = g + 1 := ⟨f - 1, by have := H1.out; omega⟩
      have H5' := H5.out
      rw [sbF_succ] at H5'
      have H6 := Lib.hid H5'
      clear H5' H5
      have k3 : bits BinOp.xor IntKind.u8 (s' : Int) ((rot8 (inv b) k : Nat) : Int) = ((s' ^^^ rot8 (inv b) k : Nat) : Int) := u8_xor_nat _ _ h2 (rot8_lt _ hc)
      go_wp2_with (first | (go_at_call 68; refine (rot8_any _ _ hc (by omega) _).mono ?_; rintro e w' ⟨rfl, rfl⟩))
      go_round
      case rel => exact ⟨f, k + 1, _, by have := H1.out; omega, xor_lt8 h2 (rot8_lt _ hc), by go_num, rfl, H6.out⟩
      case measure => simp [intOf]; omega
    · obtain rfl : k = 5 := by omega
      obtain rfl : f = 0 := by have := H1.out; omega
      clear H1
      go_wp2
      go_ret
      exact ⟨by rw [← H5.out]; rfl, rfl⟩

set_option maxHeartbeats 400000 in
theorem back_any (b : Nat) (hb : b < 256) (w : World) :
    Calls Try.prog 39 #[.int .u8 b] w fun e w' => e = .returned (.int .u8 (bk b)) ∧ w = w' := by
  have h1 := rot8_lt 1 hb
  have h3 := rot8_lt 3 hb
  have h6 := rot8_lt 6 hb
  unfold bk
  have k3 : bits BinOp.xor IntKind.u8 ((rot8 b 1 : Nat) : Int) ((rot8 b 3 : Nat) : Int) = ((rot8 b 1 ^^^ rot8 b 3 : Nat) : Int) := u8_xor_nat _ _ h1 h3
  have k4 : bits BinOp.xor IntKind.u8 ((rot8 b 1 ^^^ rot8 b 3 : Nat) : Int) ((rot8 b 6 : Nat) : Int) = ((rot8 b 1 ^^^ rot8 b 3 ^^^ rot8 b 6 : Nat) : Int) := u8_xor_nat _ _ (xor_lt8 h1 h3) h6
  have k5 : bits BinOp.xor IntKind.u8 ((rot8 b 1 ^^^ rot8 b 3 ^^^ rot8 b 6 : Nat) : Int) 5 = ((rot8 b 1 ^^^ rot8 b 3 ^^^ rot8 b 6 ^^^ 5 : Nat) : Int) :=
    u8_xor_nat _ 5 (xor_lt8 (xor_lt8 h1 h3) h6) (by omega)
  have h7 := xor_lt8 (xor_lt8 (xor_lt8 h1 h3) h6) (show 5 < 256 by omega)
  go_enter Try.func39, Try.ntmps39
  go_wp2_with fail
  refine (rot8_any b 1 hb (by omega) _).mono ?_
  rintro e w' ⟨rfl, rfl⟩
  go_wp2_with fail
  refine (rot8_any b 3 hb (by omega) _).mono ?_
  rintro e w' ⟨rfl, rfl⟩
  go_wp2_with fail
  refine (rot8_any b 6 hb (by omega) _).mono ?_
  rintro e w' ⟨rfl, rfl⟩
  go_wp2_with fail
  refine (inverse_any _ h7 _).mono ?_
  rintro e w' ⟨rfl, rfl⟩
  go_wp2_with fail
  go_ret
  exact ⟨rfl, rfl⟩

/-! ### The reference's Sub -/
def rinvF (b : Nat) : Nat → Nat → Nat → Nat
  | 0, _, c => c
  | f + 1, x, c => rinvF b f (x + 1) (if rtm x b = 1 then x else c)
theorem rinvF_eq {b : Nat} (hb : b < 256) (f : Nat) : ∀ x c, x + f = 256 → 1 ≤ x → (c = 0 ∨ c = inv b) → (c = 0 → ∀ y, 1 ≤ y → y < x → tm y b ≠ 1) → rinvF b f x c = inv b := by
  induction f with
  | zero =>
    intro x c hx _ hc hn
    have e : x = 256 := by omega
    subst e
    rcases hc with h | h
    · subst h
      rcases Nat.eq_zero_or_pos b with h0 | h0
      · subst h0; exact inv_zero.symm
      · have h1 := inv_mul hb (by omega)
        have hne : inv b ≠ 0 := by
          intro e
          rw [e, tm_zero_l] at h1
          cases h1
        exact absurd h1 (hn rfl (inv b) (by omega) (inv_lt hb))
    · exact h
  | succ f ih =>
    intro x c hx h1 hc hn
    unfold rinvF
    have ex : rtm x b = tm x b := rtm_eq (by omega) hb
    rw [ex]
    split
    · rename_i h
      refine ih _ _ (by omega) (by omega) (.inr (inv_only (by omega) hb h)) ?_
      intro e
      omega
    · rename_i h
      refine ih _ _ (by omega) (by omega) hc ?_
      intro e y hy hy2
      rcases Nat.lt_or_ge y x with hlt | hge
      · exact hn e y hy hlt
      · have : y = x := by omega
        subst this
        exact h
theorem rinv_eq {b : Nat} (hb : b < 256) : rinvF b 255 1 0 = inv b := rinvF_eq hb 255 1 0 (by omega) (by omega) (.inl rfl) (fun _ y h1 h2 => by omega)
theorem rinvF_lt (b : Nat) (f : Nat) : ∀ x c, x + f ≤ 256 → c < 256 → rinvF b f x c < 256 := by
  induction f with
  | zero => intro x c _ h; exact h
  | succ f ih =>
    intro x c hx hc
    unfold rinvF
    exact ih _ _ (by omega) (by split <;> omega)

theorem bit_step (bit c e : Nat) (h1 : bit < 2) (h2 : c < 256) : bits BinOp.xor IntKind.i64 (bit : Int) (bits BinOp.and IntKind.i64 ((c : Int) / 2 ^ e) 1) = ((bit ^^^ (c / 2 ^ e % 2) : Nat) : Int) := by
  have hle := Nat.div_le_self c (2 ^ e)
  have k1 : bits BinOp.and IntKind.i64 ((c : Int) / 2 ^ e) 1 = ((c / 2 ^ e % 2 : Nat) : Int) := by
    have := i64_and1 (c / 2 ^ e) (by omega)
    simpa using this
  rw [k1, i64_xor_nat _ _ (by omega) (by omega)]
theorem xor_lt2 {a b : Nat} (ha : a < 2) : a ^^^ b % 2 < 2 := Nat.xor_lt_two_pow (n := 1) ha (by omega)

set_option maxRecDepth 100000 in
set_option maxHeartbeats 1000000 in
theorem rsub_any (b : Nat) (hb : b < 256) (w : World) :
    Calls Try.prog 70 #[.int .u8 b] w fun e w' => e = .returned (.int .u8 (sb b)) ∧ w = w' := by
  go_enter Try.func70, Try.ntmps70
  go_wp2
  go_loop [3, 4] (fun c i => ∃ (f x c' : Nat), x + f = 256 ∧ 1 ≤ x ∧ c' < 256 ∧ i = .int .i64 x ∧ c = .int .i64 c' ∧ rinvF b f x c' = inv b) (fun _ i => 256 - (intOf i).toNat)
  case atStart => exact ⟨255, 1, 0, by omega, by omega, by omega, rfl, rfl, rinv_eq hb⟩
  case round =>
    obtain ⟨f, x, c', h1, h2, h3, rfl, rfl, h5⟩ := hrel
    have H5 := Lib.hid h5
    have H1 := Lib.hid h1
    clear h5 h1
    have hx : x ≤ 256 := by have := H1.out; omega
    by_cases e0 : x < 256
    · obtain ⟨f, rfl⟩ : ∃ g, f = g + 1 := ⟨f - 1, by have := H1.out; omega⟩
      have H5' := H5.out
      unfold rinvF at H5'
      have H6 := Lib.hid H5'
      clear H5' H5
      have hk1 : rtm x b = 1 → (((rtm x b : Nat) : Int) == 1) = true := fun h => by rw [h]; rfl
      have hk0 : ¬ rtm x b = 1 → (((rtm x b : Nat) : Int) == 1) = false := fun h => by rw [beq_eq_false_iff_ne]; omega
      by_cases c1 : rtm x b = 1
      all_goals
        have H7 := H6.out
        simp only [c1, if_true, if_false] at H7
        have H8 := Lib.hid H7
        first | have k1 := hk1 c1 | have k1 := hk0 c1
        clear c1 H7 H6 hk1 hk0
        go_wp2_with (first | (go_at_call 71; refine (rtimes_any x b e0 hb _).mono ?_; rintro e w' ⟨rfl, rfl⟩))
        go_round
        case rel => exact ⟨f, x + 1, _, by have := H1.out; omega, by omega, (by first | exact h3 | exact e0), by go_num, rfl, H8.out⟩
        case measure => simp [intOf]; omega
    · obtain rfl : x = 256 := by omega
      obtain rfl : f = 0 := by have := H1.out; omega
      clear H1
      have HC : Hid (c' = inv b) := H5.out
      clear H5 hx e0 h2
      go_wp2
      go_loop [5, 6] (fun s i => ∃ (f k s' : Nat), k + f = 8 ∧ s' < 2 ^ k ∧ i = .int .i64 k ∧ s = .int .i64 s' ∧ rsubF c' f k s' = rsubF c' 8 0 0) (fun _ i => 8 - (intOf i).toNat)
      case atStart => exact ⟨8, 0, 0, by omega, by omega, rfl, rfl, rfl⟩
      case round =>
        obtain ⟨f, k, s', h1, h2, rfl, rfl, h5⟩ := hrel
        have H5 := Lib.hid h5
        have H1 := Lib.hid h1
        clear h5 h1
        have hk : k ≤ 8 := by have := H1.out; omega
        by_cases e0 : k < 8
        · obtain ⟨f, rfl⟩ : ∃ g, f = g + 1 := ⟨f - 1, by have := H1.out; omega⟩
          have H5' := H5.out
          rw [rsubF_succ] at H5'
          have H6 := Lib.hid H5'
          clear H5' H5
          have k1 : bits BinOp.and IntKind.i64 (99 / 2 ^ k) 1 = ((99 / 2 ^ k % 2 : Nat) : Int) := by
            have := i64_and1 (99 / 2 ^ k) (by have := Nat.div_le_self 99 (2 ^ k); omega)
            simpa using this
          go_wp2
          clear k1
          go_loop [7, 8] (fun bt i => ∃ (g j bit : Nat), j + g = 5 ∧ bit < 2 ∧ i = .int .i64 j ∧ bt = .int .i64 bit ∧ rbitF c' k g j bit = rbitF c' k 5 0 (99 / 2 ^ k % 2)) (fun _ i => 5 - (intOf i).toNat)
          case atStart => exact ⟨5, 0, 99 / 2 ^ k % 2, by omega, by omega, rfl, rfl, rfl⟩
          case round =>
            obtain ⟨g, j, bit, g1, g2, rfl, rfl, g5⟩ := hrel
            have G5 := Lib.hid g5
            have G1 := Lib.hid g1
            clear g5 g1
            have hj : j ≤ 5 := by have := G1.out; omega
            by_cases e1 : j < 5
            · obtain ⟨g, rfl⟩ : ∃ h, g = h + 1 := ⟨g - 1, by have := G1.out; omega⟩
              have G5' := G5.out
              rw [rbitF_succ] at G5'
              by_cases ej : j = 0
              · subst ej
                have G6 := Lib.hid G5'
                clear G5' G5
                have k2 : bits BinOp.xor IntKind.i64 (bit : Int) (bits BinOp.and IntKind.i64 ((c' : Int) / 2 ^ (k % 8)) 1) = ((bit ^^^ (c' / 2 ^ (k % 8) % 2) : Nat) : Int) := bit_step bit c' (k % 8) g2 h3
                go_wp2
                go_round
                case rel => exact ⟨g, 1, _, by have := G1.out; omega, xor_lt2 g2, rfl, rfl, G6.out⟩
                case measure => simp [intOf]
              · have ej2 : ((j : Int) == 0) = false := by rw [beq_eq_false_iff_ne]; omega
                have G6 : Hid (rbitF c' k g (j + 1) (bit ^^^ c' / 2 ^ ((k + 3 + j) % 8) % 2) = rbitF c' k 5 0 (99 / 2 ^ k % 2)) := by rw [if_neg ej] at G5'; exact G5'
                clear G5' G5
                have k2 : bits BinOp.xor IntKind.i64 (bit : Int) (bits BinOp.and IntKind.i64 ((c' : Int) / 2 ^ ((k + 3 + j) % 8)) 1) = ((bit ^^^ (c' / 2 ^ ((k + 3 + j) % 8) % 2) : Nat) : Int) := bit_step bit c' ((k + 3 + j) % 8) g2 h3
                go_wp2
                go_round
                case rel => exact ⟨g, j + 1, _, by have := G1.out; omega, xor_lt2 g2, by go_num, rfl, G6.out⟩
                case measure => simp [intOf]; omega
            · obtain rfl : j = 5 := by omega
              obtain rfl : g = 0 := by have := G1.out; omega
              have G6 : Hid (bit = rbitF c' k 5 0 (99 / 2 ^ k % 2)) := G5.out
              clear G5 G1
              have hp : 2 ^ k ≤ 2 ^ 7 := Nat.pow_le_pow_right (by omega) (by omega)
              have hb2 : bit * 2 ^ k ≤ 1 * 2 ^ k := Nat.mul_le_mul (by omega) (Nat.le_refl _)
              have k3 : wrap64 ((s' : Int) + wrap64 ((bit : Int) * 2 ^ k)) = ((s' + bit * 2 ^ k : Nat) : Int) := by
                have e1 := IntWalk.wrap64_in ((bit * 2 ^ k : Nat) : Int) ⟨by omega, by omega⟩
                have e2 := IntWalk.wrap64_in ((s' + bit * 2 ^ k : Nat) : Int) ⟨by omega, by omega⟩
                simp at e1
                rw [e1]
                simpa using e2
              have hs2 : s' + bit * 2 ^ k < 2 ^ (k + 1) := by rw [Nat.pow_succ]; omega
              clear hp hb2
              go_wp2
              go_round
              case rel => exact ⟨f, k + 1, _, by have := H1.out; omega, hs2, by go_num, by rw [k3], by rw [← H6.out, ← G6.out]⟩
              case measure => simp [intOf]; omega
        · obtain rfl : k = 8 := by omega
          obtain rfl : f = 0 := by have := H1.out; omega
          clear H1
          have hs : rsubF c' 8 0 0 = s' := H5.out.symm
          rw [HC.out, rsub_eq hb] at hs
          have HS := Lib.hid hs
          clear hs
          go_wp2
          go_ret
          rw [HS.out]
          exact ⟨rfl, rfl⟩
end Go.Proofs.Ytmldpamkghdohaa
