/-
  THE WALK OF quillpresslaw05.AesNumbers: it returns true. Conditions: none.
-/
import Derived.Test.YtbnhjhdbjffnkaaAesA
namespace Go.Proofs.Ytbnhjhdbjffnkaa
open Go.RowKit
set_option linter.unusedSimpArgs false
set_option linter.unusedVariables false

theorem encrypt_no (p v : Value) (c : Nat) (hc : c = 1 ∨ c = 2) (w : World) (h : Calls Try.prog 36 #[p, v] w fun e w' => e = .returned (.int .i64 c) ∧ w = w') :
    Calls Try.prog 16 #[p, v] w fun e w' => e = .returned (.tuple #[.slice none 0 0, .int .i64 c]) ∧ w = w' := by
  have hn : ((c : Int) != 0) = true := by rw [bne_iff_ne]; omega
  go_enter Try.func16, Try.ntmps16
  go_wp2_with (go_at_call 36; refine h.mono ?_; rintro e w' ⟨rfl, rfl⟩)
  go_ret2
  exact ⟨rfl, rfl⟩
theorem decrypt_no (p v : Value) (c : Nat) (hc : c = 1 ∨ c = 2) (w : World) (h : Calls Try.prog 36 #[p, v] w fun e w' => e = .returned (.int .i64 c) ∧ w = w') :
    Calls Try.prog 22 #[p, v] w fun e w' => e = .returned (.tuple #[.slice none 0 0, .int .i64 c]) ∧ w = w' := by
  have hn : ((c : Int) != 0) = true := by rw [bne_iff_ne]; omega
  go_enter Try.func22, Try.ntmps22
  go_wp2_with (go_at_call 36; refine h.mono ?_; rintro e w' ⟨rfl, rfl⟩)
  go_ret2
  exact ⟨rfl, rfl⟩

set_option maxRecDepth 100000 in
set_option maxHeartbeats 4000000 in
theorem numbers_walk (w : World) : Calls Try.prog 5 #[] w fun e w' => e = .returned (.bool true) ∧ Below w.heap.size w w' := by
  go_enter Try.func5, Try.ntmps5
  go_wp2_with fail
  refine (row_any 0 1 16 (by omega) (by omega) (by omega) _).mono ?_
  rintro e w1 ⟨v1, rfl, ho1, hb1⟩
  obtain ⟨A1, c1, rfl, -, -, -⟩ := ho1.form
  rw [rowL_length]
  have HB1 := Lib.hid hb1
  clear ho1 hb1
  go_wp2_with fail
  refine (new_len A1 16 c1 w1 (by omega)).mono ?_
  rintro e w' ⟨rfl, rfl⟩
  go_wp2_with fail
  refine (row_any 0 1 33 (by omega) (by omega) (by omega) _).mono ?_
  rintro e w2 ⟨v2, rfl, ho2, hb2⟩
  obtain ⟨A2, c2, rfl, -, -, -⟩ := ho2.form
  rw [rowL_length]
  have HB2 : Hid (Below w.heap.size w w2) := HB1.out.trans (hb2.mono HB1.out.size)
  clear ho2 hb2 HB1
  go_wp2_with fail
  refine (new_len A2 33 c2 w2 (by omega)).mono ?_
  rintro e w' ⟨rfl, rfl⟩
  go_wp2_with fail
  refine (row_any 0 1 32 (by omega) (by omega) (by omega) _).mono ?_
  rintro e w3 ⟨v3, rfl, ho3, hb3⟩
  obtain ⟨A3, c3, rfl, -, -, hr3⟩ := ho3.form
  rw [rowL_length]
  have HR3 := Lib.hid hr3
  have HB3 : Hid (Below w.heap.size w w3) := HB2.out.trans (hb3.mono HB2.out.size)
  clear ho3 hb3 HB2 hr3
  go_wp2_with fail
  refine (new_any A3 c3 (rowL 0 1 32) w3 (rowL_length _ _ _) HR3.out).mono ?_
  rintro e w4 ⟨rfl, hc4, hb4⟩
  have HC4 : Hid (∃ kb, Cph w4 w3.heap.size kb) := ⟨_, hc4⟩
  have HB4 : Hid (Below w.heap.size w w4) := HB3.out.trans (hb4.mono HB3.out.size)
  clear hc4 hb4 HB3 HR3
  generalize w3.heap.size = gc at *
  go_wp2_with fail
  refine (row_any 0 1 15 (by omega) (by omega) (by omega) _).mono ?_
  rintro e w5 ⟨v5, rfl, ho5, hb5⟩
  obtain ⟨A5, c5, rfl, -, -, -⟩ := ho5.form
  rw [rowL_length]
  have HB5 : Hid (Below w.heap.size w w5) := HB4.out.trans (hb5.mono HB4.out.size)
  have HC5 : Hid (∃ kb, Cph w5 gc kb) := by obtain ⟨kb, h⟩ := HC4.out; exact ⟨kb, h.below hb5 h.lt⟩
  clear ho5 hb5 HB4 HC4
  go_wp2_with fail
  refine (encrypt_no _ _ 2 (by omega) w5 (by obtain ⟨kb, h⟩ := HC5.out; exact may_len _ _ _ _ _ h.mark (by omega))).mono ?_
  rintro e w' ⟨rfl, rfl⟩
  go_wp2_with fail
  refine (row_any 0 1 17 (by omega) (by omega) (by omega) _).mono ?_
  rintro e w6 ⟨v6, rfl, ho6, hb6⟩
  obtain ⟨A6, c6, rfl, -, -, -⟩ := ho6.form
  rw [rowL_length]
  have HB6 : Hid (Below w.heap.size w w6) := HB5.out.trans (hb6.mono HB5.out.size)
  have HC6 : Hid (∃ kb, Cph w6 gc kb) := by obtain ⟨kb, h⟩ := HC5.out; exact ⟨kb, h.below hb6 h.lt⟩
  clear ho6 hb6 HB5 HC5
  go_wp2_with fail
  refine (decrypt_no _ _ 2 (by omega) w6 (by obtain ⟨kb, h⟩ := HC6.out; exact may_len _ _ _ _ _ h.mark (by omega))).mono ?_
  rintro e w' ⟨rfl, rfl⟩
  clear HC6
  go_wp2_with fail
  refine (table_any _).mono ?_
  rintro e w7 ⟨v7, rfl, ho7, hb7⟩
  obtain ⟨g7, c7, rfl, -, -, hg7, hcell7, -⟩ := ho7.form0 (by intro e; have := congrArg List.length e; simp [subL] at this)
  rw [show subL.length = 256 by simp [subL]] at *
  have hcell7 : ∀ i, i < 256 → w7.cell? ⟨g7, i, none⟩ = some (.int .u8 (sb i : Nat)) := by
    intro i hi
    rw [hcell7 i hi]
    simp [nth, subL, hi]
  have HB7 : Hid (Below w.heap.size w w7) := HB6.out.trans (hb7.mono HB6.out.size)
  have HCell := Lib.hid hcell7
  have Hg := Lib.hid hg7
  clear ho7 hb7 HB6 hcell7 hg7
  go_wp2_with fail
  go_loopw [12] (fun i wr => ∃ k n : Nat, k ≤ 256 ∧ i = .int .i64 k ∧ wr = w7.drewN n) (fun i _ => 256 - (intOf i).toNat)
  case atStart => exact ⟨0, 0, by omega, rfl, rfl⟩
  case round =>
    obtain ⟨k, n, hk, rfl, rfl⟩ := hrel
    have hs : k = 256 ∨ k < 256 := by omega
    rcases hs with rfl | hk2
    · have HB8 : Hid (Below w.heap.size w (w7.drewN n)) := below_drewN' HB7.out n
      clear HB7 hcell7 HCell Hg
      generalize w7.drewN n = w8 at *
      go_wp2_with fail
      refine (row_any 0 1 16 (by omega) (by omega) (by omega) _).mono ?_
      rintro e w9 ⟨v9, rfl, ho9, hb9⟩
      obtain ⟨A9, c9, rfl, -, -, -⟩ := ho9.form
      rw [rowL_length]
      have HB9 : Hid (Below w.heap.size w w9) := HB8.out.trans (hb9.mono HB8.out.size)
      clear ho9 hb9 HB8
      go_wp2_with fail
      refine (encrypt_no _ _ 1 (by omega) w9 (may_nil _ _)).mono ?_
      rintro e w' ⟨rfl, rfl⟩
      go_wp2_with fail
      have hz : (w9.alloc (.cells Try.zeroCells43 43)).cell? ⟨w9.heap.size, 0, none⟩ = some (.bool false) := by
        rw [cell_of_row _ _ _ _ _ _ (heap_alloc_new w9 _)]
        kernel_rfl
      have hb10 := HB9.out.alloc HB9.out.size (.cells Try.zeroCells43 43)
      have hlt : w9.heap.size < (w9.alloc (.cells Try.zeroCells43 43)).heap.size := by simp
      have HZ := Lib.hid hz
      have HB10 := Lib.hid hb10
      clear hz hb10 HB9
      generalize w9.alloc (.cells Try.zeroCells43 43) = w10 at *
      generalize w9.heap.size = g10 at *
      have HL := Lib.hid hlt
      clear hlt
      refine (row_any 0 1 16 (by omega) (by omega) (by omega) _).mono ?_
      rintro e w11 ⟨v11, rfl, ho11, hb11⟩
      obtain ⟨A11, c11, rfl, -, -, -⟩ := ho11.form
      rw [rowL_length]
      have HB11 : Hid (Below w.heap.size w w11) := HB10.out.trans (hb11.mono HB10.out.size)
      have HZ11 : Hid (w11.cell? ⟨g10, 0, none⟩ = some (.bool false)) := (hb11.cell HL.out).trans HZ.out
      clear ho11 hb11 HB10 HZ HL
      go_wp2_with fail
      refine (decrypt_no _ _ 1 (by omega) w11 (may_zero _ _ _ HZ11.out)).mono ?_
      rintro e w' ⟨rfl, rfl⟩
      clear HZ11
      go_wp2_with fail
      refine (made_nil w11).mono ?_
      rintro e w' ⟨rfl, rfl⟩
      go_wp2_with fail
      have hz : (w11.alloc (.cells Try.zeroCells43 43)).cell? ⟨w11.heap.size, 0, none⟩ = some (.bool false) := by
        rw [cell_of_row _ _ _ _ _ _ (heap_alloc_new w11 _)]
        kernel_rfl
      have HB12 := Lib.hid (HB11.out.alloc HB11.out.size (.cells Try.zeroCells43 43))
      have HZ := Lib.hid hz
      clear hz HB11
      generalize w11.alloc (.cells Try.zeroCells43 43) = w12 at *
      generalize w11.heap.size = g12 at *
      refine (made_any g12 w12 false HZ.out).mono ?_
      rintro e w' ⟨rfl, rfl⟩
      go_wp2_with fail
      refine (awake_any w12).mono ?_
      rintro e w13 ⟨rfl, hb13⟩
      have HB13 := Lib.hid (HB12.out.trans (hb13.mono HB12.out.size))
      clear hb13 HB12 HZ
      go_wp2_with fail
      go_ret
      exact ⟨rfl, HB13.out⟩
    · have hk3 : ((k : Int) < 256) = True := by simp; omega
      go_wp2_with fail
      have hw : IntKind.u8.wrap (k : Int) = k := by simp [IntKind.wrap, IntKind.signed, IntKind.bits]; omega
      have hc : (w7.drewN n).cell? ⟨g7, k, none⟩ = some (.int .u8 (sb k : Nat)) := HCell.out k hk2
      have hsl := sb_lt hk2
      have hbs : bk (sb k) = k := bk_sb hk2
      have hrel0 : ∃ m, w7.drewN n = w7.drewN m := ⟨n, rfl⟩
      have HR := Lib.hid hrel0
      clear hrel0
      generalize w7.drewN n = w8 at *
      refine wp_region_quiet_lit (by kernel_rfl) (by kernel_rfl) ?_
      repeat (quiet_step (first
        | (go_at_call 14; (try rw [hw]); exact Calls.quiet_of_same ((sub_any k hk2 _).mono (fun _ _ h => ⟨h.1, h.2.symm⟩)))
        | (go_at_call 20; refine Calls.quiet_of_same ((back_any (sb k) hsl _).mono (fun _ _ h => ⟨h.1, h.2.symm⟩)))))
      try simp only [hbs, bne_self_eq_false]
      refine wpQuiet_nil ?_
      intro _ hw'
      obtain ⟨nq, hw''⟩ := hw'
      subst hw''
      obtain ⟨m, hm⟩ := HR.out
      subst hm
      clear hw hc hsl hbs HR
      go_wp2_with fail
      go_roundw
      case rel => exact ⟨k + 1, m + nq, by omega, by go_num, rfl⟩
      case measure => simp [intOf]; omega
end Go.Proofs.Ytbnhjhdbjffnkaa
