/-
  THE WALK OF quillpresslaw04's awake. Conditions: none.
-/
import Derived.Test.YtbnhjhdbjffnkabDerA
namespace Go.Proofs.Ytbnhjhdbjffnkab
open Go.RowKit
set_option linter.unusedSimpArgs false
set_option linter.unusedVariables false

set_option maxRecDepth 100000 in
set_option maxHeartbeats 2000000 in
theorem derAwake_any (w : World) : Calls Try.prog 22 #[] w fun e w' => e = .returned (.bool true) ∧ Below w.heap.size w w' := by
  have kc := fun (w : World) (C : Array Value) (n c : Nat) => Lib.run_convert_bytes_const (P := Try.prog) w 25 5 C n c Try.underlying25 Try.underlying5
  have kc1 := fun (w : World) (D : Obj) (C : Array Value) (n c : Nat) => kc (w.alloc D) C n c
  simp only [World.size_alloc] at kc1
  go_enter Try.func22, Try.ntmps22
  go_wp2_with fail
  obtain ⟨hb0, ha0, hm0⟩ := two_consts w 5 [74, 101, 102, 101] [119, 104, 97, 116, 32, 100, 111, 32, 121, 97, 32, 119, 97, 110, 116, 32, 102, 111, 114, 32, 110, 111, 116, 104, 105, 110, 103, 63] (by decide) (by decide) #[.int .u8 74, .int .u8 101, .int .u8 102, .int .u8 101] #[.int .u8 119, .int .u8 104, .int .u8 97, .int .u8 116, .int .u8 32, .int .u8 100, .int .u8 111, .int .u8 32, .int .u8 121, .int .u8 97, .int .u8 32, .int .u8 119, .int .u8 97, .int .u8 110, .int .u8 116, .int .u8 32, .int .u8 102, .int .u8 111, .int .u8 114, .int .u8 32, .int .u8 110, .int .u8 111, .int .u8 116, .int .u8 104, .int .u8 105, .int .u8 110, .int .u8 103, .int .u8 63] rfl rfl (4, 5) (28, 29)
  generalize (w.alloc (.cells #[.int .u8 74, .int .u8 101, .int .u8 102, .int .u8 101] 5 (4, 5))).alloc (.cells #[.int .u8 119, .int .u8 104, .int .u8 97, .int .u8 116, .int .u8 32, .int .u8 100, .int .u8 111, .int .u8 32, .int .u8 121, .int .u8 97, .int .u8 32, .int .u8 119, .int .u8 97, .int .u8 110, .int .u8 116, .int .u8 32, .int .u8 102, .int .u8 111, .int .u8 114, .int .u8 32, .int .u8 110, .int .u8 111, .int .u8 116, .int .u8 104, .int .u8 105, .int .u8 110, .int .u8 103, .int .u8 63] 5 (28, 29)) = W at *
  have HB0 := Lib.hid hb0
  have HA0 := Lib.hid ha0
  have HM0 := Lib.hid hm0
  clear hb0 ha0 hm0
  refine (hmac_c (some ⟨w.heap.size, 0, none⟩) 4 4 [74, 101, 102, 101] (some ⟨w.heap.size + 1, 0, none⟩) 28 28 [119, 104, 97, 116, 32, 100, 111, 32, 121, 97, 32, 119, 97, 110, 116, 32, 102, 111, 114, 32, 110, 111, 116, 104, 105, 110, 103, 63] W rfl (by decide) HA0.out rfl (by decide) HM0.out).mono ?_
  rintro e w1 ⟨rfl, hb1⟩
  obtain ⟨Lj, hLj⟩ : ∃ L, L = hmac [74, 101, 102, 101] [119, 104, 97, 116, 32, 100, 111, 32, 121, 97, 32, 119, 97, 110, 116, 32, 102, 111, 114, 32, 110, 111, 116, 104, 105, 110, 103, 63] := ⟨_, rfl⟩
  rw [← hLj]
  have hLl : Lj.length = 32 := by rw [hLj]; exact hmac_length _ _
  have hLb : ∀ x ∈ Lj, x < 256 := by rw [hLj]; exact hmac_lt _ _
  have hLx : mkS (hexL Lj) = mkS (hexL [91, 220, 193, 70, 191, 96, 117, 78, 106, 4, 36, 38, 8, 149, 117, 199, 90, 0, 63, 8, 157, 39, 57, 131, 157, 236, 88, 185, 100, 236, 56, 67]) := by rw [hLj, ex_jefe]
  rw [hexS_jefe] at hLx
  obtain ⟨C, hC, hCn, hCi⟩ := bytesV_at Lj hLl
  rw [hC]
  have HB1 := Lib.hid (HB0.out.trans (hb1.mono HB0.out.size))
  have HLX := Lib.hid hLx
  have HLL := Lib.hid hLl
  have HLB := Lib.hid hLb
  have HCN := Lib.hid hCn
  have HCI := Lib.hid hCi
  clear hLj hLl hLb hLx hC hCn hCi hb1 HB0 HA0 HM0
  go_upto_region 2 with (refine wpList_store_new 30 (.tmp 1) (.tmp 8) rfl rfl _ C rfl rfl (by rw [HCN.out]; exact size32) (by rw [HCN.out]; rfl) (bytes_oneCell HCN.out HCI.out) ?_)
  have hrow : Row32 (w1.alloc (.cells C 30)) w1.heap.size Lj := rowNew rfl HCN.out HCI.out
  have hbU : Below w.heap.size w (w1.alloc (.cells C 30)) := HB1.out.alloc HB1.out.size _
  generalize w1.alloc (.cells C 30) = U at *
  generalize w1.heap.size = gj at *
  have HROW := Lib.hid hrow
  have HBU := Lib.hid hbU
  clear hrow hbU HB1 HCN HCI
  go_wp2_with fail
  obtain ⟨hb2, hp2, hs2⟩ := two_consts U 5 [112, 97, 115, 115, 119, 111, 114, 100] [115, 97, 108, 116] (by decide) (by decide) #[.int .u8 112, .int .u8 97, .int .u8 115, .int .u8 115, .int .u8 119, .int .u8 111, .int .u8 114, .int .u8 100] #[.int .u8 115, .int .u8 97, .int .u8 108, .int .u8 116] rfl rfl (8, 9) (4, 5)
  generalize (U.alloc (.cells #[.int .u8 112, .int .u8 97, .int .u8 115, .int .u8 115, .int .u8 119, .int .u8 111, .int .u8 114, .int .u8 100] 5 (8, 9))).alloc (.cells #[.int .u8 115, .int .u8 97, .int .u8 108, .int .u8 116] 5 (4, 5)) = V at *
  have HROW2 := Lib.hid (HROW.out.of_block (hb2.block _ HROW.out.lt))
  have HBV := Lib.hid (HBU.out.trans (hb2.mono HBU.out.size))
  have HP2 := Lib.hid hp2
  have HS2 := Lib.hid hs2
  clear hb2 hp2 hs2 HROW HBU
  refine (pbkdf2_any (some ⟨U.heap.size, 0, none⟩) 8 8 [112, 97, 115, 115, 119, 111, 114, 100] (some ⟨U.heap.size + 1, 0, none⟩) 4 4 [115, 97, 108, 116] 1 32 V rfl (by decide) HP2.out rfl (by decide) HS2.out (by omega) (by omega) (by omega)).mono ?_
  rintro e w2 ⟨A2, c2, rfl, hc2, hr2, hb2⟩
  have hlu : ((pbAll [112, 97, 115, 115, 119, 111, 114, 100] [115, 97, 108, 116] (1 - 1) ((32 + 31) / 32)).take 32) = [18, 15, 182, 207, 252, 248, 179, 44, 67, 231, 34, 82, 86, 196, 248, 55, 168, 101, 72, 201, 44, 204, 53, 72, 8, 5, 152, 124, 183, 11, 225, 123] := ex_pb1
  rw [hlu] at hr2
  have HR2 := Lib.hid hr2
  have HROW3 := Lib.hid (HROW2.out.of_block (hb2.block _ HROW2.out.lt))
  have HB3 := Lib.hid (HBV.out.trans (hb2.mono HBV.out.size))
  clear hr2 hb2 hlu HROW2 HBV HP2 HS2
  go_wp2_with fail
  refine (hex4_any (some ⟨gj, 0, none⟩) 32 32 Lj w2 HLL.out.symm (by rw [HLL.out]; omega) (Row32.rd HROW3.out HLL.out HLB.out)).mono ?_
  rintro e w3 ⟨rfl, hb3⟩
  rw [HLX.out]
  have HR3 := Lib.hid (HR2.out.below hb3)
  have HB4 := Lib.hid (HB3.out.trans (hb3.mono HB3.out.size))
  clear hb3 HROW3 HB3 HR2
  go_wp2_with fail
  refine (hex4_any A2 32 c2 [18, 15, 182, 207, 252, 248, 179, 44, 67, 231, 34, 82, 86, 196, 248, 55, 168, 101, 72, 201, 44, 204, 53, 72, 8, 5, 152, 124, 183, 11, 225, 123] w3 (by decide) (by decide) HR3.out).mono ?_
  rintro e w4 ⟨rfl, hb4⟩
  rw [hexS_u1]
  have HB5 := Lib.hid (HB4.out.trans (hb4.mono HB4.out.size))
  clear hb4 HR3 HB4
  go_wp2_with fail
  go_ret
  exact ⟨rfl, HB5.out⟩
end Go.Proofs.Ytbnhjhdbjffnkab
