/-
  THE WALK OF quillpresslaw04.DeriveNumbers: it returns true. Conditions: none.
-/
import Derived.Test.YtbnhjhdbjffnkabDerB
namespace Go.Proofs.Ytbnhjhdbjffnkab
open Go.RowKit
set_option linter.unusedSimpArgs false
set_option linter.unusedVariables false

theorem same_tt (A1 A2 : Option Addr) (n1 n2 c1 c2 : Nat) (a : List Nat) (w : World) (h1 : n1 = a.length) (h2 : n2 = a.length) (ha : Rd w A1 a) (hb : Rd w A2 a) (hla : a.length ≤ 9223372036854775807) :
    Calls Try.prog 21 #[.slice A1 n1 c1, .slice A2 n2 c2] w fun e w' => e = .returned (.bool true) ∧ Below w.heap.size w w' := by
  subst h1; subst h2
  refine (same_any A1 A2 c1 c2 a a w ha hb hla hla).mono fun e w' h => ?_
  obtain ⟨rfl, n, rfl⟩ := h
  exact ⟨by rw [show sameB a a = true by simp [sameB]], below_drewN' (Below.refl _ _) n⟩
set_option maxRecDepth 100000 in
set_option maxHeartbeats 4000000 in
theorem deriveNumbers_walk (w : World) : Calls Try.prog 5 #[] w fun e w' => e = .returned (.bool true) ∧ Below w.heap.size w w' := by
  have kc := fun (w : World) (C : Array Value) (n c : Nat) => Lib.run_convert_bytes_const (P := Try.prog) w 25 5 C n c Try.underlying25 Try.underlying5
  have kc1 := fun (w : World) (D : Obj) (C : Array Value) (n c : Nat) => kc (w.alloc D) C n c
  simp only [World.size_alloc] at kc1
  go_enter Try.func5, Try.ntmps5
  go_wp2_with fail
  obtain ⟨hb0, hp0, hs0⟩ := two_consts w 5 [112, 97, 115, 115, 119, 111, 114, 100] [115, 97, 108, 116] (by decide) (by decide) #[.int .u8 112, .int .u8 97, .int .u8 115, .int .u8 115, .int .u8 119, .int .u8 111, .int .u8 114, .int .u8 100] #[.int .u8 115, .int .u8 97, .int .u8 108, .int .u8 116] rfl rfl (8, 9) (4, 5)
  generalize (w.alloc (.cells #[.int .u8 112, .int .u8 97, .int .u8 115, .int .u8 115, .int .u8 119, .int .u8 111, .int .u8 114, .int .u8 100] 5 (8, 9))).alloc (.cells #[.int .u8 115, .int .u8 97, .int .u8 108, .int .u8 116] 5 (4, 5)) = V at *
  have HB0 := Lib.hid hb0
  have HP0 := Lib.hid hp0
  have HS0 := Lib.hid hs0
  clear hb0 hp0 hs0
  refine (pbkdf2_any (some ⟨w.heap.size, 0, none⟩) 8 8 [112, 97, 115, 115, 119, 111, 114, 100] (some ⟨w.heap.size + 1, 0, none⟩) 4 4 [115, 97, 108, 116] 2 32 V rfl (by decide) HP0.out rfl (by decide) HS0.out (by omega) (by omega) (by omega)).mono ?_
  rintro e w1 ⟨A1, c1, rfl, hc1, hr1, hb1⟩
  have hlu : ((pbAll [112, 97, 115, 115, 119, 111, 114, 100] [115, 97, 108, 116] (2 - 1) ((32 + 31) / 32)).take 32) = [174, 77, 12, 149, 175, 107, 70, 211, 45, 10, 223, 249, 40, 240, 109, 208, 42, 48, 63, 142, 243, 194, 81, 223, 214, 226, 216, 90, 149, 71, 76, 67] := ex_pb2
  rw [hlu] at hr1
  have HR1 := Lib.hid hr1
  have HB1 := Lib.hid (HB0.out.trans (hb1.mono HB0.out.size))
  clear hr1 hb1 hlu HP0 HS0 HB0
  go_wp2_with fail
  refine (pbkdf2_no (.slice none 0 0) (.slice none 0 0) 0 1 (by omega) w1).mono ?_
  rintro e w' ⟨rfl, rfl⟩
  go_wp2_with fail
  refine (pbkdf2_no (.slice none 0 0) (.slice none 0 0) 1001 1 (by omega) w1).mono ?_
  rintro e w' ⟨rfl, rfl⟩
  go_wp2_with fail
  refine (pbkdf2_no (.slice none 0 0) (.slice none 0 0) 1 1025 (by omega) w1).mono ?_
  rintro e w' ⟨rfl, rfl⟩
  go_wp2_with fail
  refine (pbkdf2_no (.slice none 0 0) (.slice none 0 0) 1 (-1) (by omega) w1).mono ?_
  rintro e w' ⟨rfl, rfl⟩
  go_wp2_with fail
  obtain ⟨hb2, hp2, hs2⟩ := two_consts w1 5 [112] [115] (by decide) (by decide) #[.int .u8 112] #[.int .u8 115] rfl rfl (1, 2) (1, 2)
  generalize (w1.alloc (.cells #[.int .u8 112] 5 (1, 2))).alloc (.cells #[.int .u8 115] 5 (1, 2)) = V2 at *
  have HR2 := Lib.hid (HR1.out.below hb2)
  have HB2 := Lib.hid (HB1.out.trans (hb2.mono HB1.out.size))
  have HP2 := Lib.hid hp2
  have HS2 := Lib.hid hs2
  clear hb2 hp2 hs2 HR1 HB1
  refine (pbkdf2_any (some ⟨w1.heap.size, 0, none⟩) 1 1 [112] (some ⟨w1.heap.size + 1, 0, none⟩) 1 1 [115] 3 1024 V2 rfl (by decide) HP2.out rfl (by decide) HS2.out (by omega) (by omega) (by omega)).mono ?_
  rintro e w3 ⟨A3, c3, rfl, hc3, hr3, hb3⟩
  obtain ⟨L3, hL3⟩ : ∃ L, L = (pbAll [112] [115] (3 - 1) ((1024 + 31) / 32)).take 1024 := ⟨_, rfl⟩
  have hl3 : L3.length = 1024 := by rw [hL3, List.length_take, pbAll_length]; omega
  rw [← hL3] at hr3
  have HL3 := Lib.hid hL3
  have HLN := Lib.hid hl3
  have HR3 := Lib.hid hr3
  have HR4 := Lib.hid (HR2.out.below hb3)
  have HB3 := Lib.hid (HB2.out.trans (hb3.mono HB2.out.size))
  clear hL3 hl3 hr3 hb3 HP2 HS2 HR2 HB2
  go_wp2_with fail
  obtain ⟨hb4, hp4, hs4⟩ := two_consts w3 5 [112] [115] (by decide) (by decide) #[.int .u8 112] #[.int .u8 115] rfl rfl (1, 2) (1, 2)
  generalize (w3.alloc (.cells #[.int .u8 112] 5 (1, 2))).alloc (.cells #[.int .u8 115] 5 (1, 2)) = V4 at *
  have HR5 := Lib.hid (HR4.out.below hb4)
  have HR6 := Lib.hid (HR3.out.below hb4)
  have HB4 := Lib.hid (HB3.out.trans (hb4.mono HB3.out.size))
  have HP4 := Lib.hid hp4
  have HS4 := Lib.hid hs4
  clear hb4 hp4 hs4 HR3 HR4 HB3
  refine (rpbkdf2_any (some ⟨w3.heap.size, 0, none⟩) 1 1 [112] (some ⟨w3.heap.size + 1, 0, none⟩) 1 1 [115] 3 1024 V4 rfl (by decide) HP4.out rfl (by decide) HS4.out (by omega) (by omega) (by omega)).mono ?_
  rintro e w5 ⟨A5, c5, rfl, hc5, hr5, hb5⟩
  rw [← HL3.out] at hr5
  have HR7 := Lib.hid (HR5.out.below hb5)
  have HR8 := Lib.hid (HR6.out.below hb5)
  have HR9 := Lib.hid hr5
  have HB5 := Lib.hid (HB4.out.trans (hb5.mono HB4.out.size))
  clear hr5 hb5 HR5 HR6 HB4 HP4 HS4
  go_wp2_with fail
  refine (pbkdf2_any none 0 0 [] none 0 0 [] 1000 0 w5 rfl (by decide) Rd.nil rfl (by decide) Rd.nil (by omega) (by omega) (by omega)).mono ?_
  rintro e w6 ⟨A6, c6, rfl, hc6, -, hb6⟩
  have HRA := Lib.hid (HR7.out.below hb6)
  have HRB := Lib.hid (HR8.out.below hb6)
  have HRC := Lib.hid (HR9.out.below hb6)
  have HB6 := Lib.hid (HB5.out.trans (hb6.mono HB5.out.size))
  clear hb6 HR7 HR8 HR9 HB5
  go_wp2_with fail
  refine (hex4_any A1 32 c1 [174, 77, 12, 149, 175, 107, 70, 211, 45, 10, 223, 249, 40, 240, 109, 208, 42, 48, 63, 142, 243, 194, 81, 223, 214, 226, 216, 90, 149, 71, 76, 67] w6 (by decide) (by decide) HRA.out).mono ?_
  rintro e w7 ⟨rfl, hb7⟩
  rw [hexS_x]
  have HRD := Lib.hid (HRB.out.below hb7)
  have HRE := Lib.hid (HRC.out.below hb7)
  have HB7 := Lib.hid (HB6.out.trans (hb7.mono HB6.out.size))
  clear hb7 HRA HRB HRC HB6
  go_wp2_with fail
  refine (same_tt A3 A5 1024 1024 c3 c5 L3 w7 HLN.out.symm HLN.out.symm HRD.out HRE.out (by rw [HLN.out]; omega)).mono ?_
  rintro e w8 ⟨rfl, hb8⟩
  have HB8 := Lib.hid (HB7.out.trans (hb8.mono HB7.out.size))
  clear hb8 HRD HRE HB7
  go_wp2_with fail
  refine (derAwake_any w8).mono ?_
  rintro e w9 ⟨rfl, hb9⟩
  have HB9 := Lib.hid (HB8.out.trans (hb9.mono HB8.out.size))
  clear hb9
  go_wp2_with fail
  go_ret
  exact ⟨rfl, HB9.out⟩
end Go.Proofs.Ytbnhjhdbjffnkab
