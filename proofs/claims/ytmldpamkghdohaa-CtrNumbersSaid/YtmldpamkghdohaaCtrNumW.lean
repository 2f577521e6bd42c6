/-
  THE WALK OF quillpresslaw06.CtrNumbers: it returns true. Conditions: none.
-/
import Derived.Test.YtmldpamkghdohaaCtrT
import Derived.Test.YtmldpamkghdohaaRow
namespace Go.Proofs.Ytmldpamkghdohaa
open Go.RowKit
set_option linter.unusedSimpArgs false
set_option linter.unusedVariables false

theorem strm_block (kb : Nat → Nat) : strm kb (List.replicate 8 0) 0 16 = (List.range 16).map (encN kb (nth (List.replicate 16 0)) 14) := by
  have hx0 : List.replicate 8 0 ++ beN 0 8 = List.replicate 16 0 := by decide
  unfold strm
  apply List.map_congr_left
  intro i hi
  have hi : i < 16 := by simpa using hi
  rw [show (0 + i) / 16 = 0 by omega, show (0 + i) % 16 = i by omega]
  unfold ctrB
  rw [hx0]
  exact nth_map16 _ hi
theorem turned_nil (kb : Nat → Nat) (nonce : List Nat) (a : Nat) : turned kb nonce a [] = [] := by
  have := turned_length kb nonce a []
  exact List.eq_nil_of_length_eq_zero this
set_option maxRecDepth 100000 in
set_option maxHeartbeats 8000000 in
theorem ctrNumbers_walk (w : World) : Calls Try.prog 3 #[] w fun e w' => e = .returned (.bool true) ∧ Below w.heap.size w w' := by
  have hm16 : ∀ W : World, (Instr.makeSlice 26 (.int .i64 16) (.int .i64 16)).run Try.prog W = .ok (.slice (some ⟨W.heap.size, 0, none⟩) 16 16) (W.alloc (.cells (madeCells #[.int .u8 0] 16) 5)) := fun W => run_mkn W 16 (by omega)
  have hm8 : ∀ W : World, (Instr.makeSlice 26 (.int .i64 8) (.int .i64 8)).run Try.prog W = .ok (.slice (some ⟨W.heap.size, 0, none⟩) 8 8) (W.alloc (.cells (madeCells #[.int .u8 0] 8) 5)) := fun W => run_mkn W 8 (by omega)
  go_enter Try.func3, Try.ntmps3
  go_wp2_with fail
  refine (key_any _).mono ?_
  rintro e w1 ⟨v1, rfl, ho1, hb1⟩
  obtain ⟨A1, c1, rfl, hc1, -, hr1⟩ := ho1.form
  have HBW := Lib.hid hb1
  have HR1 := Lib.hid hr1
  clear ho1 hb1 hr1
  go_wp2_with fail
  refine (new_any A1 c1 (List.range 32) w1 (List.length_range) HR1.out).mono ?_
  rintro e w2 ⟨rfl, hc2, hb2⟩
  have hkb : ∀ i, i < 240 → nth (ks (List.range 32)) i < 256 := fun i _ => nth_lt (ks_lt HR1.out.1) i
  clear HR1
  generalize hkq : nth (ks (List.range 32)) = kb at *
  have HKQ := Lib.hid hkq
  have HC := Lib.hid hc2
  have HKB := Lib.hid hkb
  clear hc2 hkb hkq
  replace HBW := Lib.hid (HBW.out.trans (hb2.mono HBW.out.size))
  clear hb2
  generalize w1.heap.size = gc at *
  go_wp2_with fail
  have hb3 : Below w2.heap.size w2 (w2.alloc (.cells (madeCells #[.int .u8 0] 8) 5)) := (Below.refl _ _).alloc (Nat.le_refl _) _
  have HN := Lib.hid (mk_rd w2 8)
  generalize w2.alloc (.cells (madeCells #[.int .u8 0] 8) 5) = w3 at *
  replace HC := Lib.hid (HC.out.below hb3 HC.out.lt)
  replace HBW := Lib.hid (HBW.out.trans (hb3.mono HBW.out.size))
  clear hb3
  generalize w2.heap.size = gn at *
  refine (stream_any gc _ 8 kb (List.replicate 8 0) 0 16 w3 (by omega) (by omega) HC.out HKB.out (by simp) HN.out).mono ?_
  rintro e w4 ⟨v4, rfl, ho4, hb4⟩
  rw [strm_block] at ho4
  obtain ⟨A4, c4, rfl, -, -, hr4⟩ := ho4.form
  try replace HC := Lib.hid (HC.out.below hb4 HC.out.lt)
  try replace HN := Lib.hid (HN.out.below hb4)
  try replace HS := Lib.hid (HS.out.below hb4)
  try replace HA := Lib.hid (HA.out.below hb4)
  try replace HF := Lib.hid (HF.out.below hb4)
  try replace HV := Lib.hid (HV.out.below hb4)
  replace HBW := Lib.hid (HBW.out.trans (hb4.mono HBW.out.size))
  clear hb4
  go_wp2_with fail
  have HS := Lib.hid hr4
  clear ho4 hr4
  have hb5 : Below w4.heap.size w4 (w4.alloc (.cells (madeCells #[.int .u8 0] 16) 5)) := (Below.refl _ _).alloc (Nat.le_refl _) _
  have HZ := Lib.hid (mk_rd w4 16)
  generalize w4.alloc (.cells (madeCells #[.int .u8 0] 16) 5) = w5 at *
  replace HC := Lib.hid (HC.out.below hb5 HC.out.lt)
  replace HN := Lib.hid (HN.out.below hb5)
  replace HS := Lib.hid (HS.out.below hb5)
  replace HBW := Lib.hid (HBW.out.trans (hb5.mono HBW.out.size))
  clear hb5
  refine (encrypt_rd gc _ 16 16 kb (List.replicate 16 0) w5 rfl (by simp) HC.out HKB.out HZ.out).mono ?_
  rintro e w6 ⟨ga, rfl, -, hr6, hb6⟩
  clear HZ
  try replace HC := Lib.hid (HC.out.below hb6 HC.out.lt)
  try replace HN := Lib.hid (HN.out.below hb6)
  try replace HS := Lib.hid (HS.out.below hb6)
  try replace HA := Lib.hid (HA.out.below hb6)
  try replace HF := Lib.hid (HF.out.below hb6)
  try replace HV := Lib.hid (HV.out.below hb6)
  replace HBW := Lib.hid (HBW.out.trans (hb6.mono HBW.out.size))
  clear hb6
  go_wp2_with fail
  have HA := Lib.hid hr6
  clear hr6
  refine (stream_no gc _ 8 8 (-1) 1 w6 HC.out.mark (by unfold CtrOk; omega)).mono ?_
  rintro e w7 ⟨rfl, hb⟩
  try replace HC := Lib.hid (HC.out.below hb HC.out.lt)
  try replace HN := Lib.hid (HN.out.below hb)
  try replace HS := Lib.hid (HS.out.below hb)
  try replace HA := Lib.hid (HA.out.below hb)
  try replace HF := Lib.hid (HF.out.below hb)
  try replace HV := Lib.hid (HV.out.below hb)
  replace HBW := Lib.hid (HBW.out.trans (hb.mono HBW.out.size))
  clear hb
  go_wp2_with fail
  refine (stream_no gc _ 7 8 0 1 w7 HC.out.mark (by unfold CtrOk; omega)).mono ?_
  rintro e w8 ⟨rfl, hb⟩
  try replace HC := Lib.hid (HC.out.below hb HC.out.lt)
  try replace HN := Lib.hid (HN.out.below hb)
  try replace HS := Lib.hid (HS.out.below hb)
  try replace HA := Lib.hid (HA.out.below hb)
  try replace HF := Lib.hid (HF.out.below hb)
  try replace HV := Lib.hid (HV.out.below hb)
  replace HBW := Lib.hid (HBW.out.trans (hb.mono HBW.out.size))
  clear hb
  go_wp2_with fail
  refine (stream_no gc _ 8 8 1099511627777 1 w8 HC.out.mark (by unfold CtrOk; omega)).mono ?_
  rintro e w9 ⟨rfl, hb⟩
  try replace HC := Lib.hid (HC.out.below hb HC.out.lt)
  try replace HN := Lib.hid (HN.out.below hb)
  try replace HS := Lib.hid (HS.out.below hb)
  try replace HA := Lib.hid (HA.out.below hb)
  try replace HF := Lib.hid (HF.out.below hb)
  try replace HV := Lib.hid (HV.out.below hb)
  replace HBW := Lib.hid (HBW.out.trans (hb.mono HBW.out.size))
  clear hb
  go_wp2_with fail
  refine (stream_no gc _ 8 8 0 (-1) w9 HC.out.mark (by unfold CtrOk; omega)).mono ?_
  rintro e w10 ⟨rfl, hb⟩
  try replace HC := Lib.hid (HC.out.below hb HC.out.lt)
  try replace HN := Lib.hid (HN.out.below hb)
  try replace HS := Lib.hid (HS.out.below hb)
  try replace HA := Lib.hid (HA.out.below hb)
  try replace HF := Lib.hid (HF.out.below hb)
  try replace HV := Lib.hid (HV.out.below hb)
  replace HBW := Lib.hid (HBW.out.trans (hb.mono HBW.out.size))
  clear hb
  go_wp2_with fail
  refine (stream_no gc _ 8 8 0 4194305 w10 HC.out.mark (by unfold CtrOk; omega)).mono ?_
  rintro e w11 ⟨rfl, hb⟩
  try replace HC := Lib.hid (HC.out.below hb HC.out.lt)
  try replace HN := Lib.hid (HN.out.below hb)
  try replace HS := Lib.hid (HS.out.below hb)
  try replace HA := Lib.hid (HA.out.below hb)
  try replace HF := Lib.hid (HF.out.below hb)
  try replace HV := Lib.hid (HV.out.below hb)
  replace HBW := Lib.hid (HBW.out.trans (hb.mono HBW.out.size))
  clear hb
  go_wp2_with fail
  refine (stream_nil _ 8 8 0 1 w11).mono ?_
  rintro e w12 ⟨rfl, hb⟩
  try replace HC := Lib.hid (HC.out.below hb HC.out.lt)
  try replace HN := Lib.hid (HN.out.below hb)
  try replace HS := Lib.hid (HS.out.below hb)
  try replace HA := Lib.hid (HA.out.below hb)
  try replace HF := Lib.hid (HF.out.below hb)
  try replace HV := Lib.hid (HV.out.below hb)
  replace HBW := Lib.hid (HBW.out.trans (hb.mono HBW.out.size))
  clear hb
  go_wp2_with fail
  have hz : (w12.alloc (.cells Try.zeroCells36 36)).cell? ⟨w12.heap.size, 0, none⟩ = some (.bool false) := by
    rw [cell_of_row _ _ _ _ _ _ (heap_alloc_new w12 _)]
    kernel_rfl
  have hb13 := (Below.refl w12.heap.size w12).alloc (Nat.le_refl _) (.cells Try.zeroCells36 36)
  generalize w12.alloc (.cells Try.zeroCells36 36) = w13 at *
  replace HC := Lib.hid (HC.out.below hb13 HC.out.lt)
  replace HN := Lib.hid (HN.out.below hb13)
  replace HS := Lib.hid (HS.out.below hb13)
  replace HA := Lib.hid (HA.out.below hb13)
  replace HBW := Lib.hid (HBW.out.trans (hb13.mono HBW.out.size))
  have HZ := Lib.hid hz
  clear hb13 hz
  generalize w12.heap.size = gz at *
  refine (turn_zero gz _ 8 8 0 none 0 0 w13 HZ.out).mono ?_
  rintro e w14 ⟨rfl, hb⟩
  clear HZ
  try replace HC := Lib.hid (HC.out.below hb HC.out.lt)
  try replace HN := Lib.hid (HN.out.below hb)
  try replace HS := Lib.hid (HS.out.below hb)
  try replace HA := Lib.hid (HA.out.below hb)
  try replace HF := Lib.hid (HF.out.below hb)
  try replace HV := Lib.hid (HV.out.below hb)
  replace HBW := Lib.hid (HBW.out.trans (hb.mono HBW.out.size))
  clear hb
  go_wp2_with fail
  refine (stream_any gc _ 8 kb (List.replicate 8 0) 1099511627776 3 w14 (by omega) (by omega) HC.out HKB.out (by simp) HN.out).mono ?_
  rintro e w15 ⟨v15, rfl, ho15, hb15⟩
  obtain ⟨A15, c15, rfl, -, -, hr15⟩ := ho15.form
  rw [strm_length]
  try replace HC := Lib.hid (HC.out.below hb15 HC.out.lt)
  try replace HN := Lib.hid (HN.out.below hb15)
  try replace HS := Lib.hid (HS.out.below hb15)
  try replace HA := Lib.hid (HA.out.below hb15)
  try replace HF := Lib.hid (HF.out.below hb15)
  try replace HV := Lib.hid (HV.out.below hb15)
  replace HBW := Lib.hid (HBW.out.trans (hb15.mono HBW.out.size))
  clear hb15
  go_wp2_with fail
  have HF := Lib.hid hr15
  clear ho15 hr15
  refine (key_any _).mono ?_
  rintro e w16 ⟨v16, rfl, ho16, hb16⟩
  obtain ⟨A16, c16, rfl, hc16, -, hr16⟩ := ho16.form
  rw [List.length_range] at hc16 ⊢
  try replace HC := Lib.hid (HC.out.below hb16 HC.out.lt)
  try replace HN := Lib.hid (HN.out.below hb16)
  try replace HS := Lib.hid (HS.out.below hb16)
  try replace HA := Lib.hid (HA.out.below hb16)
  try replace HF := Lib.hid (HF.out.below hb16)
  try replace HV := Lib.hid (HV.out.below hb16)
  replace HBW := Lib.hid (HBW.out.trans (hb16.mono HBW.out.size))
  clear hb16
  go_wp2_with fail
  refine (rstream_any A16 c16 _ 8 (List.range 32) (List.replicate 8 0) 1099511627776 3 w16 (by omega) (by omega) (List.length_range) hc16 hr16 (by simp) HN.out).mono ?_
  rintro e w17 ⟨v17, rfl, ho17, hb17⟩
  rw [HKQ.out] at ho17
  obtain ⟨A17, c17, rfl, -, -, hr17⟩ := ho17.form
  rw [strm_length]
  clear hr16 ho16
  try replace HC := Lib.hid (HC.out.below hb17 HC.out.lt)
  try replace HN := Lib.hid (HN.out.below hb17)
  try replace HS := Lib.hid (HS.out.below hb17)
  try replace HA := Lib.hid (HA.out.below hb17)
  try replace HF := Lib.hid (HF.out.below hb17)
  try replace HV := Lib.hid (HV.out.below hb17)
  replace HBW := Lib.hid (HBW.out.trans (hb17.mono HBW.out.size))
  clear hb17
  go_wp2_with fail
  have HV := Lib.hid hr17
  clear ho17 hr17
  refine (turn_any gc _ 8 kb (List.replicate 8 0) 7 none 0 0 [] w17 (by omega) (by simp) HC.out HKB.out (by simp) HN.out rfl Rd.nil).mono ?_
  rintro e w18 ⟨v18, rfl, ho18, hb18⟩
  rw [turned_nil] at ho18
  obtain ⟨A18, c18, rfl, -, -, -⟩ := ho18.form
  clear ho18
  try replace HC := Lib.hid (HC.out.below hb18 HC.out.lt)
  try replace HN := Lib.hid (HN.out.below hb18)
  try replace HS := Lib.hid (HS.out.below hb18)
  try replace HA := Lib.hid (HA.out.below hb18)
  try replace HF := Lib.hid (HF.out.below hb18)
  try replace HV := Lib.hid (HV.out.below hb18)
  replace HBW := Lib.hid (HBW.out.trans (hb18.mono HBW.out.size))
  clear hb18
  go_wp2_with fail
  refine (same_yes _ _ _ _ _ _ _ w18 (by simp) (by simp) HS.out HA.out (by simp)).mono ?_
  rintro e w19 ⟨rfl, hb19⟩
  try replace HC := Lib.hid (HC.out.below hb19 HC.out.lt)
  try replace HN := Lib.hid (HN.out.below hb19)
  try replace HS := Lib.hid (HS.out.below hb19)
  try replace HA := Lib.hid (HA.out.below hb19)
  try replace HF := Lib.hid (HF.out.below hb19)
  try replace HV := Lib.hid (HV.out.below hb19)
  replace HBW := Lib.hid (HBW.out.trans (hb19.mono HBW.out.size))
  clear hb19
  go_wp2_with fail
  refine (same_yes _ _ _ _ _ _ _ w19 (by rw [strm_length]) (by rw [strm_length]) HF.out HV.out (by rw [strm_length]; omega)).mono ?_
  rintro e w20 ⟨rfl, hb20⟩
  try replace HC := Lib.hid (HC.out.below hb20 HC.out.lt)
  try replace HN := Lib.hid (HN.out.below hb20)
  try replace HS := Lib.hid (HS.out.below hb20)
  try replace HA := Lib.hid (HA.out.below hb20)
  try replace HF := Lib.hid (HF.out.below hb20)
  try replace HV := Lib.hid (HV.out.below hb20)
  replace HBW := Lib.hid (HBW.out.trans (hb20.mono HBW.out.size))
  clear hb20
  go_wp2_with fail
  refine (awake_any w20).mono ?_
  rintro e w21 ⟨rfl, hb21⟩
  try replace HC := Lib.hid (HC.out.below hb21 HC.out.lt)
  try replace HN := Lib.hid (HN.out.below hb21)
  try replace HS := Lib.hid (HS.out.below hb21)
  try replace HA := Lib.hid (HA.out.below hb21)
  try replace HF := Lib.hid (HF.out.below hb21)
  try replace HV := Lib.hid (HV.out.below hb21)
  replace HBW := Lib.hid (HBW.out.trans (hb21.mono HBW.out.size))
  clear hb21
  go_wp2_with fail
  go_ret
  exact ⟨rfl, HBW.out⟩
end Go.Proofs.Ytmldpamkghdohaa
