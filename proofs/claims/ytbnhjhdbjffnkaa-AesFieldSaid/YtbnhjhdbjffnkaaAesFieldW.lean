/-
  THE WALK OF quillpresslaw05.AesField: for any three bytes the law returns true. Conditions: none.
-/
import Derived.Test.YtbnhjhdbjffnkaaAesA
namespace Go.Proofs.Ytbnhjhdbjffnkaa
open Go.RowKit
set_option linter.unusedSimpArgs false
set_option linter.unusedVariables false

set_option maxRecDepth 100000 in
set_option maxHeartbeats 2000000 in
theorem field_walk (a b c : Nat) (ha : a < 256) (hb : b < 256) (hc : c < 256) (w : World) :
    Calls Try.prog 4 #[.int .u8 a, .int .u8 b, .int .u8 c] w fun e w' => e = .returned (.bool true) ∧ Below w.heap.size w w' := by
  have k1 : bits BinOp.xor IntKind.u8 (b : Int) (c : Int) = ((b ^^^ c : Nat) : Int) := u8_xor_nat _ _ hb hc
  have k2 : bits BinOp.xor IntKind.u8 (tm a b : Int) (tm a c : Int) = ((tm a b ^^^ tm a c : Nat) : Int) := u8_xor_nat _ _ (tm_lt _ _ ha) (tm_lt _ _ ha)
  go_enter Try.func4, Try.ntmps4
  go_wp2_with fail
  refine (times_any a b ha hb _).mono ?_
  rintro e w' ⟨rfl, rfl⟩
  go_wp2_with fail
  refine (times_any b a hb ha _).mono ?_
  rintro e w' ⟨rfl, rfl⟩
  rw [tm_comm hb ha]
  go_wp2_with fail
  refine (times_any b c hb hc _).mono ?_
  rintro e w' ⟨rfl, rfl⟩
  go_wp2_with fail
  refine (times_any a (tm b c) ha (tm_lt _ _ hb) _).mono ?_
  rintro e w' ⟨rfl, rfl⟩
  rw [tm_assoc ha hb hc]
  go_wp2_with fail
  refine (times_any a b ha hb _).mono ?_
  rintro e w' ⟨rfl, rfl⟩
  go_wp2_with fail
  refine (times_any (tm a b) c (tm_lt _ _ ha) hc _).mono ?_
  rintro e w' ⟨rfl, rfl⟩
  go_wp2_with fail
  refine (times_any a (b ^^^ c) ha (xor_lt8 hb hc) _).mono ?_
  rintro e w' ⟨rfl, rfl⟩
  rw [tm_linr]
  go_wp2_with fail
  refine (times_any a b ha hb _).mono ?_
  rintro e w' ⟨rfl, rfl⟩
  go_wp2_with fail
  refine (times_any a c ha hc _).mono ?_
  rintro e w' ⟨rfl, rfl⟩
  go_wp2_with fail
  refine (times_any a 1 ha (by omega) _).mono ?_
  rintro e w' ⟨rfl, rfl⟩
  rw [tm_one ha]
  go_wp2_with fail
  refine (times_any a 0 ha (by omega) _).mono ?_
  rintro e w' ⟨rfl, rfl⟩
  rw [tm_zero]
  go_wp2_with fail
  refine (sub_any a ha _).mono ?_
  rintro e w' ⟨rfl, rfl⟩
  go_wp2_with fail
  refine (back_any (sb a) (sb_lt ha) _).mono ?_
  rintro e w' ⟨rfl, rfl⟩
  rw [bk_sb ha]
  go_wp2_with fail
  refine (back_any a ha _).mono ?_
  rintro e w' ⟨rfl, rfl⟩
  go_wp2_with fail
  refine (sub_any (bk a) (bk_lt ha) _).mono ?_
  rintro e w' ⟨rfl, rfl⟩
  rw [sb_bk ha]
  go_wp2_with fail
  clear k1 k2
  go_loop [7, 8] (fun f i => ∃ (k : Nat) (fb : Bool), k ≤ 256 ∧ i = .int .i64 k ∧ f = .bool fb ∧ (fb = true ↔ ∃ x, x < k ∧ tm a x = 1)) (fun _ i => 256 - (intOf i).toNat)
  case atStart => exact ⟨0, false, by omega, rfl, rfl, by simp⟩
  case round =>
    obtain ⟨k, fb, hk, rfl, rfl, hf⟩ := hrel
    have HF := Lib.hid hf
    clear hf
    by_cases e0 : k < 256
    · cases fb with
      | true =>
        go_wp2_with fail
        go_round
        case rel => exact ⟨k + 1, true, by omega, by go_num, rfl, ⟨fun _ => by obtain ⟨x, h1, h2⟩ := HF.out.1 rfl; exact ⟨x, by omega, h2⟩, fun _ => rfl⟩⟩
        case measure => simp [intOf]; omega
      | false =>
        by_cases e1 : tm a k = 1
        · have q : (((tm a k : Nat) : Int) == 1) = true := by rw [e1]; rfl
          have E1 := Lib.hid e1
          clear e1
          go_wp2_with (go_at_call 12; (with_reducible refine (times_any a k ha e0 _).mono ?_); rintro e w' ⟨rfl, rfl⟩)
          go_round
          case rel => exact ⟨k + 1, true, by omega, by go_num, rfl, ⟨fun _ => ⟨k, by omega, E1.out⟩, fun _ => rfl⟩⟩
          case measure => simp [intOf]; omega
        · have q : (((tm a k : Nat) : Int) == 1) = false := by rw [beq_eq_false_iff_ne]; omega
          have E1 := Lib.hid e1
          clear e1
          go_wp2_with (go_at_call 12; (with_reducible refine (times_any a k ha e0 _).mono ?_); rintro e w' ⟨rfl, rfl⟩)
          go_round
          case rel =>
            refine ⟨k + 1, false, by omega, by go_num, rfl, ⟨(fun h => by cases h), fun h => ?_⟩⟩
            obtain ⟨x, h1, h2⟩ := h
            rcases Nat.lt_or_ge x k with h3 | h3
            · have := HF.out.2 ⟨x, h3, h2⟩
              cases this
            · have : x = k := by omega
              subst this
              exact absurd h2 E1.out
          case measure => simp [intOf]; omega
    · obtain rfl : k = 256 := by omega
      have hfb : fb = ((a : Int) != 0) := by
        by_cases h0 : a = 0
        · subst h0
          have : ¬ fb = true := by
            rw [HF.out]
            rintro ⟨x, _, hx⟩
            rw [tm_zero_l] at hx
            cases hx
          simpa using this
        · have h1 : fb = true := by
            rw [HF.out]
            exact ⟨inv a, inv_lt ha, by rw [tm_comm ha (inv_lt ha)]; exact inv_mul ha h0⟩
          rw [h1]
          symm
          rw [bne_iff_ne]
          omega
      subst hfb
      go_wp2_with fail
      refine (awake_any _).mono ?_
      rintro e w' ⟨rfl, hb⟩
      go_wp2_with fail
      go_ret
      exact ⟨rfl, hb⟩
end Go.Proofs.Ytbnhjhdbjffnkaa
