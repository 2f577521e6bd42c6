/-
  THE WALK OF quillpresslaw07.DiskNumbers: it returns true. Conditions: none.
-/
import Derived.Test.YtkmjbfednmidbaaDiskA
namespace Go.Proofs.Ytkmjbfednmidbaa
open Go.RowKit
set_option linter.unusedSimpArgs false
set_option linter.unusedVariables false

theorem Fr.dk {base g : Nat} {w0 w : World} {d : DkS} (h : Fr base w0 w g d) : ∃ nb ob, Dk w g nb ob d ∧ (∀ d' w', Dk w' g nb ob d' → w.grownBy w' (some g) → Fr base w0 w' g d') := by
  obtain ⟨nb, ob, h1, h2, h3, h4, h5⟩ := h
  exact ⟨nb, ob, h1, fun d' w' k1 k2 => ⟨nb, ob, k1, h2, h3, h4, below_of_grown h5 k2 (Nat.le_trans h2 (Nat.le_of_lt h1.lt)) h2⟩⟩
theorem Fr.bel {base g : Nat} {w0 w : World} {d : DkS} (h : Fr base w0 w g d) : Below base w0 w := by
  obtain ⟨nb, ob, h1, h2, h3, h4, h5⟩ := h
  exact h5
theorem made_rd (w : World) (n : Nat) : Rd (w.alloc (.cells (madeCells #[.int .u8 0] n) 5)) (some ⟨w.heap.size, 0, none⟩) (List.replicate n 0) := by
  refine ⟨fun x hx => by rw [(List.mem_replicate.1 hx).2]; omega, fun hl => ⟨w.heap.size, 0, rfl, by simp, fun i hi => ?_⟩⟩
  have hi' : i < n := by simpa using hi
  rw [Nat.zero_add, (World.rowIs_made w (.int .u8 0) n 5).cell hi', nth_get hi]
  simp
theorem make_run (n : Nat) (hn : n ≤ 4194304) (w : World) : (Instr.makeSlice 32 (.int .i64 (n : Int)) (.int .i64 (n : Int))).run Try.prog w = .ok (.slice (some ⟨w.heap.size, 0, none⟩) n n) (w.alloc (.cells (madeCells #[.int .u8 0] n) 5)) :=
  run_make_row' (P := Try.prog) 32 5 (.int .u8 0) 1 Try.underlying32 (by kernel_rfl) rfl .i64 .i64 n (by omega) (by omega) w
theorem mkS_size (L : List Nat) : (mkS L).size = L.length := by simp [mkS, ByteArray.size]
theorem mkS_index (L : List Nat) (i x : Nat) (hi : i < L.length) (hx : nth L i = x) (h2 : x < 256) (w : World) : (Instr.index 9 (.string (mkS L)) (.int .i64 (i : Int))).run Try.prog w = .ok (.int .u8 (x : Int)) w := by
  rw [run_index_string w 9 (mkS L) .i64 i Try.underlying9, dif_pos ⟨by omega, by rw [mkS_size]; omega⟩]
  have e : ((mkS L)[((i : Int)).toNat]'(by rw [mkS_size]; omega)).toNat = x := by
    have e1 : (mkS L)[((i : Int)).toNat]'(by rw [mkS_size]; omega) = UInt8.ofNat (nth L i) := by
      simp only [Int.toNat_natCast]
      rw [nth_get hi]
      show (mkS L).data[i]'_ = _
      simp [mkS]
    rw [e1, hx, UInt8.toNat_ofNat']
    omega
  rw [e]
set_option maxRecDepth 100000 in
set_option maxHeartbeats 4000000 in
theorem diskNumbers_walk (w : World) : Calls Try.prog 6 #[] w fun e w' => e = .returned (.bool true) ∧ Below w.heap.size w w' := by
  have m999 : ∀ w : World, (Instr.makeSlice 32 (.int .i64 999) (.int .i64 999)).run Try.prog w = .ok (.slice (some ⟨w.heap.size, 0, none⟩) 999 999) (w.alloc (.cells (madeCells #[.int .u8 0] 999) 5)) := make_run 999 (by omega)
  have m998 : ∀ w : World, (Instr.makeSlice 32 (.int .i64 998) (.int .i64 998)).run Try.prog w = .ok (.slice (some ⟨w.heap.size, 0, none⟩) 998 998) (w.alloc (.cells (madeCells #[.int .u8 0] 998) 5)) := make_run 998 (by omega)
  have m600 : ∀ w : World, (Instr.makeSlice 32 (.int .i64 600) (.int .i64 600)).run Try.prog w = .ok (.slice (some ⟨w.heap.size, 0, none⟩) 600 600) (w.alloc (.cells (madeCells #[.int .u8 0] 600) 5)) := make_run 600 (by omega)
  have m700 : ∀ w : World, (Instr.makeSlice 32 (.int .i64 700) (.int .i64 700)).run Try.prog w = .ok (.slice (some ⟨w.heap.size, 0, none⟩) 700 700) (w.alloc (.cells (madeCells #[.int .u8 0] 700) 5)) := make_run 700 (by omega)
  have kc := fun (w : World) (C : Array Value) (n c : Nat) => Lib.run_convert_bytes_const (P := Try.prog) w 32 5 C n c Try.underlying32 Try.underlying5
  go_enter Try.func6, Try.ntmps6
  go_wp2_with fail
  refine (abc_any ⟨#[]⟩ w (by decide)).mono ?_
  rintro e w1 ⟨g, rfl, hf⟩
  have F1 : Hid (Fr w.heap.size w w1 g ⟨1000, [97, 98, 99], [97, 98, 99], 3, false, -1, 0, 0⟩) := hf
  clear hf
  go_wp2_with fail
  obtain ⟨nb, ob, hd, hc⟩ := F1.out.call
  have HD := Lib.hid hd
  have HC := Lib.hid hc
  clear hd hc
  refine (trunc_any HD.out 1 (by decide)).mono ?_
  rintro e w2 ⟨r, rfl, ha, hr⟩
  obtain rfl : r = 0 := hr.trans (by kernel_rfl)
  have F2 : Hid (Fr _ _ w2 _ ⟨1000, [97], [97, 98, 99], 1, false, -1, 0, 0⟩) := Eq.mp (congrArg (Fr _ _ w2 _) (by kernel_rfl)) (HC.out _ _ ha)
  clear ha hr HC HD
  go_wp2_with fail
  have F2b := Lib.hid (F2.out.below (w' := w2.alloc (.cells #[.int .u8 122] 5 (1, 1 + 1))) ((Below.refl _ _).alloc (Nat.le_refl _) _))
  obtain ⟨nb, ob, hd, hc⟩ := F2b.out.call
  have HD := Lib.hid hd
  have HC := Lib.hid hc
  clear hd hc
  refine (append_any HD.out (some ⟨w2.heap.size, 0, none⟩) 1 [122] (by simp) (constW_rd w2 5 [122] (by simp) _)).mono ?_
  rintro e w3 ⟨r, rfl, ha, hr⟩
  obtain rfl : r = 0 := hr.trans (by kernel_rfl)
  have F3 : Hid (Fr _ _ w3 _ ⟨1000, [97, 122], [97, 98, 99], 1, false, -1, 0, 0⟩) := Eq.mp (congrArg (Fr _ _ w3 _) (by kernel_rfl)) (HC.out _ _ ha)
  clear ha hr HC HD
  go_wp2_with fail
  obtain ⟨nb, ob, hd, hc⟩ := F3.out.dk
  have HD := Lib.hid hd
  clear hd hc
  refine (synced_any HD.out).mono ?_
  rintro e w' ⟨rfl, rfl⟩
  clear HD
  go_wp2_with fail
  obtain ⟨nb, ob, hd, hc⟩ := F3.out.call
  have HD := Lib.hid hd
  clear hd hc
  refine (crashed_any HD.out (of_decide_eq_true (by kernel_rfl)) 1 ⟨#[]⟩ (by decide)).mono ?_
  rintro e w4 ⟨hs, hb⟩
  have F4 := Lib.hid (F3.out.below hb)
  obtain rfl := hs.trans (congrArg (fun x => Ending.returned (Value.string x)) (show _ = ⟨#[97, 122]⟩ by kernel_rfl))
  clear HD hb hs
  go_wp2_with fail
  obtain ⟨nb, ob, hd, hc⟩ := F4.out.call
  have HD := Lib.hid hd
  clear hd hc
  refine (crashed_any HD.out (of_decide_eq_true (by kernel_rfl)) 0 ⟨#[]⟩ (by decide)).mono ?_
  rintro e w5 ⟨hs, hb⟩
  have F5 := Lib.hid (F4.out.below hb)
  obtain rfl := hs.trans (congrArg (fun x => Ending.returned (Value.string x)) (show _ = ⟨#[97]⟩ by kernel_rfl))
  clear HD hb hs
  go_wp2_with fail
  obtain ⟨nb, ob, hd, hc⟩ := F5.out.call
  have HD := Lib.hid hd
  clear hd hc
  refine (crashed_any HD.out (of_decide_eq_true (by kernel_rfl)) (-1) ⟨#[]⟩ (by decide)).mono ?_
  rintro e w6 ⟨hs, hb⟩
  have F6 := Lib.hid (F5.out.below hb)
  obtain rfl := hs.trans (congrArg (fun x => Ending.returned (Value.string x)) (show _ = ⟨#[97, 98, 99]⟩ by kernel_rfl))
  clear HD hb hs
  go_wp2_with fail
  refine (new_no (-1) w6 (by decide)).mono ?_
  rintro e w' ⟨rfl, rfl⟩
  go_wp2_with fail
  refine (new_no 4194305 w6 (by decide)).mono ?_
  rintro e w' ⟨rfl, rfl⟩
  go_wp2_with fail
  have F6b := Lib.hid (F6.out.below (w' := w6.alloc (.cells #[.int .u8 97, .int .u8 98, .int .u8 99] 5 (3, 3 + 1))) ((Below.refl _ _).alloc (Nat.le_refl _) _))
  refine (load_no 2 _ 3 3 _ (by decide)).mono ?_
  rintro e w' ⟨rfl, rfl⟩
  go_wp2_with fail
  obtain ⟨nb, ob, hd, hc⟩ := F6b.out.dk
  have HD := Lib.hid hd
  clear hd hc
  refine (read_no HD.out 1 2 (by decide)).mono ?_
  rintro e w7 ⟨rfl, hb⟩
  have F7 := Lib.hid (F6b.out.below hb)
  clear HD hb
  go_wp2_with fail
  obtain ⟨nb, ob, hd, hc⟩ := F7.out.dk
  have HD := Lib.hid hd
  clear hd hc
  refine (trunc_no HD.out 3 (by decide)).mono ?_
  rintro e w8 ⟨rfl, hb⟩
  have F8 := Lib.hid (F7.out.below hb)
  clear HD hb
  go_wp2_with fail
  obtain ⟨nb, ob, hd, hc⟩ := F8.out.dk
  have HD := Lib.hid hd
  clear hd hc
  refine (arm_no HD.out (-1) (by decide)).mono ?_
  rintro e w' ⟨rfl, rfl⟩
  clear HD
  go_wp2_with fail
  obtain ⟨nb, ob, hd, hc⟩ := F8.out.dk
  have HD := Lib.hid hd
  clear hd hc
  refine (fail_no HD.out 0 10 (by decide)).mono ?_
  rintro e w' ⟨rfl, rfl⟩
  clear HD
  go_wp2_with fail
  obtain ⟨nb, ob, hd, hc⟩ := F8.out.dk
  have HD := Lib.hid hd
  clear hd hc
  refine (fail_no HD.out 1 14 (by decide)).mono ?_
  rintro e w' ⟨rfl, rfl⟩
  clear HD
  go_wp2_with fail
  have FM := Lib.hid (F8.out.below (w' := w8.alloc (.cells (madeCells #[.int .u8 0] 999) 5)) ((Below.refl _ _).alloc (Nat.le_refl _) _))
  obtain ⟨nb, ob, hd, hc⟩ := FM.out.call
  have HD := Lib.hid hd
  have HC := Lib.hid hc
  clear hd hc
  refine (append_any HD.out (some ⟨w8.heap.size, 0, none⟩) 999 (List.replicate 999 0) (by simp) (made_rd w8 999)).mono ?_
  rintro e w9 ⟨r, rfl, ha, hr⟩
  obtain rfl : r = 5 := hr.trans (by kernel_rfl)
  have F9 : Hid (Fr _ _ w9 _ ⟨1000, [97, 122], [97, 98, 99], 1, false, -1, 0, 0⟩) := Eq.mp (congrArg (Fr _ _ w9 _) (by kernel_rfl)) (HC.out _ _ ha)
  clear ha hr HC HD
  go_wp2_with fail
  clear FM
  have FM := Lib.hid (F9.out.below (w' := w9.alloc (.cells (madeCells #[.int .u8 0] 998) 5)) ((Below.refl _ _).alloc (Nat.le_refl _) _))
  obtain ⟨nb, ob, hd, hc⟩ := FM.out.call
  have HD := Lib.hid hd
  have HC := Lib.hid hc
  clear hd hc
  refine (append_any HD.out (some ⟨w9.heap.size, 0, none⟩) 998 (List.replicate 998 0) (by simp) (made_rd w9 998)).mono ?_
  rintro e w10 ⟨r, rfl, ha, hr⟩
  obtain rfl : r = 0 := hr.trans (by kernel_rfl)
  have F10 : Hid (Fr _ _ w10 _ ⟨1000, [97, 122] ++ List.replicate 998 0, [97, 98, 99], 1, false, -1, 0, 0⟩) := Eq.mp (congrArg (Fr _ _ w10 _) (by kernel_rfl)) (HC.out _ _ ha)
  clear ha hr HC HD
  go_wp2_with fail
  clear FM
  have HB := Lib.hid F10.out.bel
  clear F1 F2 F3 F4 F5 F6 F6b F7 F8 F9 F10
  refine (abc_any ⟨#[]⟩ w10 (by decide)).mono ?_
  rintro e v1 ⟨g2, rfl, hf⟩
  have F1 : Hid (Fr w10.heap.size w10 v1 g2 ⟨1000, [97, 98, 99], [97, 98, 99], 3, false, -1, 0, 0⟩) := hf
  clear hf
  go_wp2_with fail
  obtain ⟨nb, ob, hd, hc⟩ := F1.out.dk
  have HD := Lib.hid hd
  have HC := Lib.hid hc
  clear hd hc
  refine (arm_any HD.out 1 (by decide) (by decide)).mono ?_
  rintro e v2 ⟨rfl, hk, hg⟩
  have F2 : Hid (Fr _ _ v2 _ ⟨1000, [97, 98, 99], [97, 98, 99], 3, false, 1, 0, 0⟩) := HC.out _ _ hk hg
  clear hk hg HC HD
  go_wp2_with fail
  obtain ⟨nb, ob, hd, hc⟩ := F2.out.call
  have HD := Lib.hid hd
  have HC := Lib.hid hc
  clear hd hc
  refine (append_any HD.out none 0 [] (by simp) Rd.nil).mono ?_
  rintro e v3 ⟨r, rfl, ha, hr⟩
  obtain rfl : r = 0 := hr.trans (by kernel_rfl)
  have F3 : Hid (Fr _ _ v3 _ ⟨1000, [97, 98, 99], [97, 98, 99], 3, false, 0, 0, 0⟩) := Eq.mp (congrArg (Fr _ _ v3 _) (by kernel_rfl)) (HC.out _ _ ha)
  clear ha hr HC HD
  go_wp2_with fail
  obtain ⟨nb, ob, hd, hc⟩ := F3.out.call
  have HD := Lib.hid hd
  have HC := Lib.hid hc
  clear hd hc
  refine (append_any HD.out none 0 [] (by simp) Rd.nil).mono ?_
  rintro e v4 ⟨r, rfl, ha, hr⟩
  obtain rfl : r = 11 := hr.trans (by kernel_rfl)
  have F4 : Hid (Fr _ _ v4 _ ⟨1000, [97, 98, 99], [97, 98, 99], 3, true, 0, 0, 0⟩) := Eq.mp (congrArg (Fr _ _ v4 _) (by kernel_rfl)) (HC.out _ _ ha)
  clear ha hr HC HD
  go_wp2_with fail
  obtain ⟨nb, ob, hd, hc⟩ := F4.out.call
  have HD := Lib.hid hd
  have HC := Lib.hid hc
  clear hd hc
  refine (sync_any HD.out).mono ?_
  rintro e v5 ⟨r, rfl, ha, hr⟩
  obtain rfl : r = 11 := hr.trans (by kernel_rfl)
  have F5 : Hid (Fr _ _ v5 _ ⟨1000, [97, 98, 99], [97, 98, 99], 3, true, 0, 0, 0⟩) := Eq.mp (congrArg (Fr _ _ v5 _) (by kernel_rfl)) (HC.out _ _ ha)
  clear ha hr HC HD
  go_wp2_with fail
  obtain ⟨nb, ob, hd, hc⟩ := F5.out.dk
  have HD := Lib.hid hd
  clear hd hc
  refine (down_any HD.out).mono ?_
  rintro e w' ⟨rfl, rfl⟩
  clear HD
  go_wp2_with fail
  obtain ⟨nb, ob, hd, hc⟩ := F5.out.call
  have HD := Lib.hid hd
  have HC := Lib.hid hc
  clear hd hc
  refine (crash_now HD.out (by decide) 0 (by decide) none [] 0 Rd.nil (by simp)).mono ?_
  rintro e v6 ⟨rfl, ha⟩
  have F6 : Hid (Fr _ _ v6 _ ⟨1000, [97, 98, 99], [97, 98, 99], 3, false, -1, 0, 0⟩) := Eq.mp (congrArg (Fr _ _ v6 _) (by kernel_rfl)) (HC.out _ _ ha)
  clear ha HC HD
  go_wp2_with fail
  obtain ⟨nb, ob, hd, hc⟩ := F6.out.dk
  have HD := Lib.hid hd
  clear hd hc
  refine (down_any HD.out).mono ?_
  rintro e w' ⟨rfl, rfl⟩
  clear HD
  go_wp2_with fail
  obtain ⟨nb, ob, hd, hc⟩ := F6.out.call
  have HD := Lib.hid hd
  have HC := Lib.hid hc
  clear hd hc
  refine (append_any HD.out none 0 [] (by simp) Rd.nil).mono ?_
  rintro e v7 ⟨r, rfl, ha, hr⟩
  obtain rfl : r = 0 := hr.trans (by kernel_rfl)
  have F7 : Hid (Fr _ _ v7 _ ⟨1000, [97, 98, 99], [97, 98, 99], 3, false, -1, 0, 0⟩) := Eq.mp (congrArg (Fr _ _ v7 _) (by kernel_rfl)) (HC.out _ _ ha)
  clear ha hr HC HD
  go_wp2_with fail
  clear F1 F2 F3 F4 F5 F6
  refine (abc_any ⟨#[]⟩ v7 (by decide)).mono ?_
  rintro e x1 ⟨g3, rfl, hf⟩
  have X1 : Hid (Fr v7.heap.size v7 x1 g3 ⟨1000, [97, 98, 99], [97, 98, 99], 3, false, -1, 0, 0⟩) := hf
  clear hf
  go_wp2_with fail
  obtain ⟨nb, ob, hd, hc⟩ := X1.out.dk
  have HD := Lib.hid hd
  have HC := Lib.hid hc
  clear hd hc
  refine (arm_any HD.out 0 (by decide) (by decide)).mono ?_
  rintro e x2 ⟨rfl, hk, hg⟩
  have X2 : Hid (Fr _ _ x2 _ ⟨1000, [97, 98, 99], [97, 98, 99], 3, false, 0, 0, 0⟩) := HC.out _ _ hk hg
  clear hk hg HC HD
  go_wp2_with fail
  obtain ⟨nb, ob, hd, hc⟩ := X2.out.dk
  have HD := Lib.hid hd
  have HC := Lib.hid hc
  clear hd hc
  refine (read_any HD.out 0 0 (by decide)).mono ?_
  rintro e x3 ⟨v, rfl, ho, hk, hg⟩
  have X3 : Hid (Fr _ _ x3 _ ⟨1000, [97, 98, 99], [97, 98, 99], 3, true, 0, 0, 0⟩) := Eq.mp (congrArg (Fr _ _ x3 _) (by kernel_rfl)) (HC.out _ _ hk hg)
  rw [show (DkS.op (⟨1000, [97, 98, 99], [97, 98, 99], 3, false, 0, 0, 0⟩ : DkS) fun d => (0, d)).1 = 11 by kernel_rfl]
  clear hk hg HC HD ho
  go_wp2_with fail
  obtain ⟨nb, ob, hd, hc⟩ := X3.out.dk
  have HD := Lib.hid hd
  clear hd hc
  refine (down_any HD.out).mono ?_
  rintro e w' ⟨rfl, rfl⟩
  clear HD
  go_wp2_with fail
  have F8 := Lib.hid (F7.out.below X3.out.bel)
  clear X1 X2 X3 F7
  obtain ⟨nb, ob, hd, hc⟩ := F8.out.dk
  have HD := Lib.hid hd
  have HC := Lib.hid hc
  clear hd hc
  refine (fail_any HD.out 2 5 (by decide) (by decide)).mono ?_
  rintro e v9 ⟨rfl, hk, hg⟩
  have F9 : Hid (Fr _ _ v9 _ ⟨1000, [97, 98, 99], [97, 98, 99], 3, false, -1, 2, 5⟩) := HC.out _ _ hk hg
  clear hk hg HC HD
  go_wp2_with fail
  obtain ⟨nb, ob, hd, hc⟩ := F9.out.call
  have HD := Lib.hid hd
  have HC := Lib.hid hc
  clear hd hc
  refine (append_any HD.out none 0 [] (by simp) Rd.nil).mono ?_
  rintro e v10 ⟨r, rfl, ha, hr⟩
  obtain rfl : r = 0 := hr.trans (by kernel_rfl)
  have F10 : Hid (Fr _ _ v10 _ ⟨1000, [97, 98, 99], [97, 98, 99], 3, false, -1, 1, 5⟩) := Eq.mp (congrArg (Fr _ _ v10 _) (by kernel_rfl)) (HC.out _ _ ha)
  clear ha hr HC HD
  go_wp2_with fail
  obtain ⟨nb, ob, hd, hc⟩ := F10.out.call
  have HD := Lib.hid hd
  have HC := Lib.hid hc
  clear hd hc
  refine (append_any HD.out none 0 [] (by simp) Rd.nil).mono ?_
  rintro e v11 ⟨r, rfl, ha, hr⟩
  obtain rfl : r = 5 := hr.trans (by kernel_rfl)
  have F11 : Hid (Fr _ _ v11 _ ⟨1000, [97, 98, 99], [97, 98, 99], 3, false, -1, 0, 5⟩) := Eq.mp (congrArg (Fr _ _ v11 _) (by kernel_rfl)) (HC.out _ _ ha)
  clear ha hr HC HD
  go_wp2_with fail
  obtain ⟨nb, ob, hd, hc⟩ := F11.out.call
  have HD := Lib.hid hd
  have HC := Lib.hid hc
  clear hd hc
  refine (append_any HD.out none 0 [] (by simp) Rd.nil).mono ?_
  rintro e v12 ⟨r, rfl, ha, hr⟩
  obtain rfl : r = 0 := hr.trans (by kernel_rfl)
  have F12 : Hid (Fr _ _ v12 _ ⟨1000, [97, 98, 99], [97, 98, 99], 3, false, -1, 0, 5⟩) := Eq.mp (congrArg (Fr _ _ v12 _) (by kernel_rfl)) (HC.out _ _ ha)
  clear ha hr HC HD
  go_wp2_with fail
  obtain ⟨nb, ob, hd, hc⟩ := F12.out.dk
  have HD := Lib.hid hd
  have HC := Lib.hid hc
  clear hd hc
  refine (fail_any HD.out 1 10 (by decide) (by decide)).mono ?_
  rintro e v13 ⟨rfl, hk, hg⟩
  have F13 : Hid (Fr _ _ v13 _ ⟨1000, [97, 98, 99], [97, 98, 99], 3, false, -1, 1, 10⟩) := HC.out _ _ hk hg
  clear hk hg HC HD
  go_wp2_with fail
  obtain ⟨nb, ob, hd, hc⟩ := F13.out.call
  have HD := Lib.hid hd
  have HC := Lib.hid hc
  clear hd hc
  refine (sync_any HD.out).mono ?_
  rintro e v14 ⟨r, rfl, ha, hr⟩
  obtain rfl : r = 10 := hr.trans (by kernel_rfl)
  have F14 : Hid (Fr _ _ v14 _ ⟨1000, [97, 98, 99], [97, 98, 99], 3, false, -1, 0, 10⟩) := Eq.mp (congrArg (Fr _ _ v14 _) (by kernel_rfl)) (HC.out _ _ ha)
  clear ha hr HC HD
  go_wp2_with fail
  obtain ⟨nb, ob, hd, hc⟩ := F14.out.call
  have HD := Lib.hid hd
  have HC := Lib.hid hc
  clear hd hc
  refine (sync_any HD.out).mono ?_
  rintro e v15 ⟨r, rfl, ha, hr⟩
  obtain rfl : r = 0 := hr.trans (by kernel_rfl)
  have F15 : Hid (Fr _ _ v15 _ ⟨1000, [97, 98, 99], [97, 98, 99], 3, false, -1, 0, 10⟩) := Eq.mp (congrArg (Fr _ _ v15 _) (by kernel_rfl)) (HC.out _ _ ha)
  clear ha hr HC HD
  go_wp2_with fail
  have HB2 : Hid (Below w.heap.size w v15) := HB.out.trans (F15.out.bel.mono HB.out.size)
  clear F8 F9 F10 F11 F12 F13 F14 F15 HB
  refine (new_any' 2000 v15 (by omega)).mono ?_
  rintro e y1 ⟨g4, nb, ob, rfl, hd, hg, hn, ho, hb⟩
  have F1 : Hid (Fr v15.heap.size v15 y1 g4 ⟨2000, [], [], 0, false, -1, 0, 0⟩) := ⟨nb, ob, hd, hg, hn, ho, hb⟩
  clear hd hg hn ho hb
  go_wp2_with fail
  have FM := Lib.hid (F1.out.below (w' := y1.alloc (.cells (madeCells #[.int .u8 0] 600) 5)) ((Below.refl _ _).alloc (Nat.le_refl _) _))
  obtain ⟨nb, ob, hd, hc⟩ := FM.out.call
  have HD := Lib.hid hd
  have HC := Lib.hid hc
  clear hd hc
  refine (append_any HD.out (some ⟨y1.heap.size, 0, none⟩) 600 (List.replicate 600 0) (by simp) (made_rd y1 600)).mono ?_
  rintro e y2 ⟨r, rfl, ha, hr⟩
  obtain rfl : r = 0 := hr.trans (by kernel_rfl)
  have F2 : Hid (Fr _ _ y2 _ ⟨2000, List.replicate 600 0, [], 0, false, -1, 0, 0⟩) := Eq.mp (congrArg (Fr _ _ y2 _) (by kernel_rfl)) (HC.out _ _ ha)
  clear ha hr HC HD
  go_wp2_with fail
  clear FM
  obtain ⟨nb, ob, hd, hc⟩ := F2.out.call
  have HD := Lib.hid hd
  have HC := Lib.hid hc
  clear hd hc
  refine (sync_any HD.out).mono ?_
  rintro e y3 ⟨r, rfl, ha, hr⟩
  obtain rfl : r = 0 := hr.trans (by kernel_rfl)
  have F3 : Hid (Fr _ _ y3 _ ⟨2000, List.replicate 600 0, List.replicate 600 0, 600, false, -1, 0, 0⟩) := Eq.mp (congrArg (Fr _ _ y3 _) (by kernel_rfl)) (HC.out _ _ ha)
  clear ha hr HC HD
  go_wp2_with fail
  have FM := Lib.hid (F3.out.below (w' := y3.alloc (.cells (madeCells #[.int .u8 0] 700) 5)) ((Below.refl _ _).alloc (Nat.le_refl _) _))
  obtain ⟨nb, ob, hd, hc⟩ := FM.out.call
  have HD := Lib.hid hd
  have HC := Lib.hid hc
  clear hd hc
  refine (append_any HD.out (some ⟨y3.heap.size, 0, none⟩) 700 (List.replicate 700 0) (by simp) (made_rd y3 700)).mono ?_
  rintro e y4 ⟨r, rfl, ha, hr⟩
  obtain rfl : r = 0 := hr.trans (by kernel_rfl)
  have F4 : Hid (Fr _ _ y4 _ ⟨2000, List.replicate 1300 0, List.replicate 600 0, 600, false, -1, 0, 0⟩) := Eq.mp (congrArg (Fr _ _ y4 _) (by kernel_rfl)) (HC.out _ _ ha)
  clear ha hr HC HD
  go_wp2_with fail
  clear FM
  obtain ⟨nb, ob, hd, hc⟩ := F4.out.call
  have HD := Lib.hid hd
  clear hd hc
  refine (crashed_any HD.out (of_decide_eq_true (by kernel_rfl)) 600 ⟨#[120, 121]⟩ (by decide)).mono ?_
  rintro e y5 ⟨hs, hb⟩
  have F5 := Lib.hid (F4.out.below hb)
  obtain ⟨LS, hL⟩ : ∃ L, L = crLeft ⟨2000, List.replicate 1300 0, List.replicate 600 0, 600, false, -1, 0, 0⟩ 600 (strB ⟨#[120, 121]⟩) := ⟨_, rfl⟩
  have hnS : LS.length = 1200 := by rw [hL]; decide +kernel
  obtain ⟨S, hS⟩ : ∃ S, S = mkS LS := ⟨_, rfl⟩
  have iS1023 : ∀ w : World, (Instr.index 9 (.string S) (.int .i64 1023)).run Try.prog w = .ok (.int .u8 0) w := by rw [hS]; exact mkS_index LS 1023 0 (by omega) (by rw [hL]; decide +kernel) (by omega)
  have iS1024 : ∀ w : World, (Instr.index 9 (.string S) (.int .i64 1024)).run Try.prog w = .ok (.int .u8 120) w := by rw [hS]; exact mkS_index LS 1024 120 (by omega) (by rw [hL]; decide +kernel) (by omega)
  have iS1025 : ∀ w : World, (Instr.index 9 (.string S) (.int .i64 1025)).run Try.prog w = .ok (.int .u8 121) w := by rw [hS]; exact mkS_index LS 1025 121 (by omega) (by rw [hL]; decide +kernel) (by omega)
  have iS1199 : ∀ w : World, (Instr.index 9 (.string S) (.int .i64 1199)).run Try.prog w = .ok (.int .u8 121) w := by rw [hS]; exact mkS_index LS 1199 121 (by omega) (by rw [hL]; decide +kernel) (by omega)
  rw [← hL, ← hS] at hs
  subst hs
  have hzS : (S.size : Int) = 1200 := by rw [hS, mkS_size, hnS]; rfl
  clear HD hb hL hS
  go_wp2_with fail
  obtain ⟨nb, ob, hd, hc⟩ := F5.out.call
  have HD := Lib.hid hd
  clear hd hc
  refine (crashed_any HD.out (of_decide_eq_true (by kernel_rfl)) 424 ⟨#[120, 121]⟩ (by decide)).mono ?_
  rintro e y6 ⟨hs, hb⟩
  have F6 := Lib.hid (F5.out.below hb)
  obtain ⟨LT, hL⟩ : ∃ L, L = crLeft ⟨2000, List.replicate 1300 0, List.replicate 600 0, 600, false, -1, 0, 0⟩ 424 (strB ⟨#[120, 121]⟩) := ⟨_, rfl⟩
  have hnT : LT.length = 1024 := by rw [hL]; decide +kernel
  obtain ⟨T, hS⟩ : ∃ S, S = mkS LT := ⟨_, rfl⟩
  have iT599 : ∀ w : World, (Instr.index 9 (.string T) (.int .i64 599)).run Try.prog w = .ok (.int .u8 0) w := by rw [hS]; exact mkS_index LT 599 0 (by omega) (by rw [hL]; decide +kernel) (by omega)
  have iT600 : ∀ w : World, (Instr.index 9 (.string T) (.int .i64 600)).run Try.prog w = .ok (.int .u8 120) w := by rw [hS]; exact mkS_index LT 600 120 (by omega) (by rw [hL]; decide +kernel) (by omega)
  have iT1023 : ∀ w : World, (Instr.index 9 (.string T) (.int .i64 1023)).run Try.prog w = .ok (.int .u8 121) w := by rw [hS]; exact mkS_index LT 1023 121 (by omega) (by rw [hL]; decide +kernel) (by omega)
  rw [← hL, ← hS] at hs
  subst hs
  have hzT : (T.size : Int) = 1024 := by rw [hS, mkS_size, hnT]; rfl
  clear HD hb hL hS
  go_wp2_with fail
  refine (awake_any y6).mono ?_
  rintro e y7 ⟨rfl, hb⟩
  have F7 := Lib.hid (F6.out.below hb)
  clear hb
  go_wp2_with fail
  go_ret
  exact ⟨rfl, HB2.out.trans (F7.out.bel.mono HB2.out.size)⟩
end Go.Proofs.Ytkmjbfednmidbaa
