/-
  THE WALKS OF quillpresslaw04's hex AND awake; its fixed examples. Conditions: none.
-/
import Derived.Test.YtbnhjhdbjffnkabDerW6
namespace Go.Proofs.Ytbnhjhdbjffnkab
open Go.RowKit
set_option linter.unusedSimpArgs false
set_option linter.unusedVariables false

set_option maxRecDepth 100000 in
set_option maxHeartbeats 2000000 in
theorem hex4_any (A : Option Addr) (n c : Nat) (l : List Nat) (w : World) (hn : n = l.length) (hl : l.length ≤ 1024) (hr : Rd w A l) : Calls Try.prog 20 #[.slice A n c] w fun e w' => e = .returned (.string (mkS (hexL l))) ∧ Below w.heap.size w w' := by
  subst hn
  have HR := Lib.hid hr
  have HBL := Lib.hid hr.1
  clear hr
  go_enter Try.func20, Try.ntmps20
  go_wp2_with fail
  go_loopw [3, 4] (fun s v wr => ∃ i n : Nat, i ≤ l.length ∧ v = .int .i64 i ∧ s = .string (mkS (hexL (l.take i))) ∧ wr = w.drewN n) (fun _ v _ => l.length - (intOf v).toNat)
  case atStart => exact ⟨0, 0, by omega, rfl, rfl, rfl⟩
  case round =>
    obtain ⟨i, n, hi, rfl, rfl, rfl⟩ := hrel
    by_cases i32 : i < l.length
    · obtain ⟨g, o, rfl, hg, hc⟩ := HR.out.2 (by intro e; rw [e] at i32; simp at i32)
      have c1 : (w.drewN n).cell? ⟨g, o + i, none⟩ = some (.int .u8 (nth l i : Nat)) := hc i i32
      have hb8 : nth l i < 256 := nth_lt HBL.out i
      clear hc
      have HT : Hid (hexL (l.take (i + 1)) = hexL (l.take i) ++ [hx (nth l i / 16), hx (nth l i % 16)]) := by
        show hexL (l.take (i + 1)) = _
        rw [List.take_add_one, List.getElem?_eq_getElem i32, ← nth_get i32]
        unfold hexL
        rw [List.flatMap_append]
        simp
      obtain ⟨b, hbn⟩ : ∃ b, b = nth l i := ⟨_, rfl⟩
      rw [← hbn] at c1 hb8 HT
      obtain ⟨S, hS⟩ : ∃ S, S = mkS (hexL (l.take i)) := ⟨_, rfl⟩
      rw [← hS]
      have HSS := Lib.hid hS
      clear hbn hS
      obtain ⟨Y, hY⟩ : ∃ Y, Y = w.drewN n := ⟨_, rfl⟩
      rw [← hY] at c1 ⊢
      have HY := Lib.hid hY
      clear hY
      have i32' : (i : Int) < l.length := by omega
      obtain ⟨d, hd⟩ : ∃ d, d = b / 16 := ⟨_, rfl⟩
      obtain ⟨m, hm⟩ : ∃ m, m = b % 16 := ⟨_, rfl⟩
      rw [← hd, ← hm] at HT
      have q0 : (b : Int) / 16 = d := by omega
      have q1 : bits .and .u8 (b : Int) 15 = (m : Int) := by
        rw [show (15 : Int) = ((15 : Nat) : Int) from rfl, u8_and_nat _ _ hb8 (by omega)]
        have : b &&& 15 = b % 16 := Nat.and_two_pow_sub_one_eq_mod b 4
        rw [this, hm]
      have d16 : d < 16 := by omega
      have m16 : m < 16 := by omega
      have q2 : IntKind.u8.wrap ((d : Int) + 1) = d + 1 := by rw [IntKind.wrap_u8']; omega
      have q3 : IntKind.u8.wrap ((m : Int) + 1) = m + 1 := by rw [IntKind.wrap_u8']; omega
      have s1 := digit_run d d16
      have s2 := digit_run m m16
      have hlen : (hexL (l.take i)).length ≤ 2048 := by
        rw [hexL_length, List.length_take]
        omega
      obtain ⟨S1, hS1⟩ : ∃ S1, S1 = mkS (hexL (l.take i) ++ [hx d]) := ⟨_, rfl⟩
      obtain ⟨S2, hS2⟩ : ∃ S2, S2 = mkS (hexL (l.take (i + 1))) := ⟨_, rfl⟩
      have a1 : ∀ W : World, (Op.stringOp .add S (mkS [hx d])).run Try.prog W = .ok (.string S1) W := fun W => by
        rw [run_string_add_sum W _ _ (by rw [HSS.out, mkS_size', mkS_size']; simp; omega), HSS.out, mkS_append, hS1]
      have a2 : ∀ W : World, (Op.stringOp .add S1 (mkS [hx m])).run Try.prog W = .ok (.string S2) W := fun W => by
        rw [run_string_add_sum W _ _ (by rw [hS1, mkS_size', mkS_size']; simp; omega), hS1, mkS_append, hS2, HT.out, List.append_assoc]
        rfl
      have HS2 := Lib.hid hS2
      clear hd hm hS1 hS2 hlen
      go_upto_region 5 with fail
      go_quiet (fail)
      go_wp2
      go_roundw
      case rel =>
        exact ⟨i + 1, _, by omega, by go_num, by rw [HS2.out], by rw [HY.out]; exact drewN_plus w n _⟩
      case measure => simp [intOf]; omega
    · obtain rfl : i = l.length := by omega
      have i32' : ¬ (l.length : Int) < l.length := by omega
      go_wp2
      go_ret
      refine ⟨?_, below_drewN' (Below.refl _ _) _⟩
      rfl
theorem ex_jefe : hmac [74, 101, 102, 101] [119, 104, 97, 116, 32, 100, 111, 32, 121, 97, 32, 119, 97, 110, 116, 32, 102, 111, 114, 32, 110, 111, 116, 104, 105, 110, 103, 63] = [91, 220, 193, 70, 191, 96, 117, 78, 106, 4, 36, 38, 8, 149, 117, 199, 90, 0, 63, 8, 157, 39, 57, 131, 157, 236, 88, 185, 100, 236, 56, 67] := by
  unfold hmac
  rw [← shaE_eq, ← shaE_eq]
  decide +kernel
theorem ex_u1 : hmac [112, 97, 115, 115, 119, 111, 114, 100] ([115, 97, 108, 116] ++ [0, 0, 0, 1]) = [18, 15, 182, 207, 252, 248, 179, 44, 67, 231, 34, 82, 86, 196, 248, 55, 168, 101, 72, 201, 44, 204, 53, 72, 8, 5, 152, 124, 183, 11, 225, 123] := by
  unfold hmac
  rw [← shaE_eq, ← shaE_eq]
  decide +kernel
theorem ex_u2 : hmac [112, 97, 115, 115, 119, 111, 114, 100] [18, 15, 182, 207, 252, 248, 179, 44, 67, 231, 34, 82, 86, 196, 248, 55, 168, 101, 72, 201, 44, 204, 53, 72, 8, 5, 152, 124, 183, 11, 225, 123] = [188, 66, 186, 90, 83, 147, 245, 255, 110, 237, 253, 171, 126, 52, 149, 231, 130, 85, 119, 71, 223, 14, 100, 151, 222, 231, 64, 38, 34, 76, 173, 56] := by
  unfold hmac
  rw [← shaE_eq, ← shaE_eq]
  decide +kernel
theorem ex_pb1 : (pbAll [112, 97, 115, 115, 119, 111, 114, 100] [115, 97, 108, 116] 0 1).take 32 = [18, 15, 182, 207, 252, 248, 179, 44, 67, 231, 34, 82, 86, 196, 248, 55, 168, 101, 72, 201, 44, 204, 53, 72, 8, 5, 152, 124, 183, 11, 225, 123] := by
  show ([] ++ hmac [112, 97, 115, 115, 119, 111, 114, 100] ([115, 97, 108, 116] ++ [0, 0, 0, 1])).take 32 = _
  rw [ex_u1]
  rfl
theorem ex_pb2 : (pbAll [112, 97, 115, 115, 119, 111, 114, 100] [115, 97, 108, 116] 1 1).take 32 = [174, 77, 12, 149, 175, 107, 70, 211, 45, 10, 223, 249, 40, 240, 109, 208, 42, 48, 63, 142, 243, 194, 81, 223, 214, 226, 216, 90, 149, 71, 76, 67] := by
  show ([] ++ xorL (hmac [112, 97, 115, 115, 119, 111, 114, 100] ([115, 97, 108, 116] ++ [0, 0, 0, 1])) (hmac [112, 97, 115, 115, 119, 111, 114, 100] (hmac [112, 97, 115, 115, 119, 111, 114, 100] ([115, 97, 108, 116] ++ [0, 0, 0, 1])))).take 32 = _
  rw [ex_u1, ex_u2]
  decide +kernel
theorem two_consts (w : World) (e : TypeId) (l m : List Nat) (hl : ∀ x ∈ l, x < 256) (hm : ∀ x ∈ m, x < 256) (C D : Array Value) (hC : C = (l.map fun x => Value.int .u8 (x : Nat)).toArray) (hD : D = (m.map fun x => Value.int .u8 (x : Nat)).toArray) (fr fr' : Nat × Nat) :
    Below w.heap.size w ((w.alloc (.cells C e fr)).alloc (.cells D e fr')) ∧ Rd ((w.alloc (.cells C e fr)).alloc (.cells D e fr')) (some ⟨w.heap.size, 0, none⟩) l ∧ Rd ((w.alloc (.cells C e fr)).alloc (.cells D e fr')) (some ⟨w.heap.size + 1, 0, none⟩) m := by
  subst hC hD
  have h1 := constW_rd w e l hl fr
  have h2 := constW_rd (w.alloc (.cells (l.map fun x => Value.int .u8 (x : Nat)).toArray e fr)) e m hm fr'
  rw [World.size_alloc] at h2
  exact ⟨((Below.refl _ _).alloc (Nat.le_refl _) _).alloc (by rw [World.size_alloc]; omega) _, h1.alloc _, h2⟩
theorem hexS_jefe : mkS (hexL [91, 220, 193, 70, 191, 96, 117, 78, 106, 4, 36, 38, 8, 149, 117, 199, 90, 0, 63, 8, 157, 39, 57, 131, 157, 236, 88, 185, 100, 236, 56, 67]) = ⟨#[53, 98, 100, 99, 99, 49, 52, 54, 98, 102, 54, 48, 55, 53, 52, 101, 54, 97, 48, 52, 50, 52, 50, 54, 48, 56, 57, 53, 55, 53, 99, 55, 53, 97, 48, 48, 51, 102, 48, 56, 57, 100, 50, 55, 51, 57, 56, 51, 57, 100, 101, 99, 53, 56, 98, 57, 54, 52, 101, 99, 51, 56, 52, 51]⟩ := by kernel_rfl
theorem hexS_u1 : mkS (hexL [18, 15, 182, 207, 252, 248, 179, 44, 67, 231, 34, 82, 86, 196, 248, 55, 168, 101, 72, 201, 44, 204, 53, 72, 8, 5, 152, 124, 183, 11, 225, 123]) = ⟨#[49, 50, 48, 102, 98, 54, 99, 102, 102, 99, 102, 56, 98, 51, 50, 99, 52, 51, 101, 55, 50, 50, 53, 50, 53, 54, 99, 52, 102, 56, 51, 55, 97, 56, 54, 53, 52, 56, 99, 57, 50, 99, 99, 99, 51, 53, 52, 56, 48, 56, 48, 53, 57, 56, 55, 99, 98, 55, 48, 98, 101, 49, 55, 98]⟩ := by kernel_rfl
theorem hexS_x : mkS (hexL [174, 77, 12, 149, 175, 107, 70, 211, 45, 10, 223, 249, 40, 240, 109, 208, 42, 48, 63, 142, 243, 194, 81, 223, 214, 226, 216, 90, 149, 71, 76, 67]) = ⟨#[97, 101, 52, 100, 48, 99, 57, 53, 97, 102, 54, 98, 52, 54, 100, 51, 50, 100, 48, 97, 100, 102, 102, 57, 50, 56, 102, 48, 54, 100, 100, 48, 50, 97, 51, 48, 51, 102, 56, 101, 102, 51, 99, 50, 53, 49, 100, 102, 100, 54, 101, 50, 100, 56, 53, 97, 57, 53, 52, 55, 52, 99, 52, 51]⟩ := by kernel_rfl
end Go.Proofs.Ytbnhjhdbjffnkab
