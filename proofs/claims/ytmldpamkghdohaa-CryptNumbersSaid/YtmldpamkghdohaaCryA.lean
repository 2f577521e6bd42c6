/-
  THE WALK OF quillpresslaw08.awake. Conditions: none.
-/
import Derived.Test.YtmldpamkghdohaaCryM
import Derived.Test.YtmldpamkghdohaaDiskA
import Derived.Test.YtmldpamkghdohaaCtrA
namespace Go.Proofs.Ytmldpamkghdohaa
open Go.RowKit
set_option linter.unusedSimpArgs false
set_option linter.unusedVariables false

def z32 : List Nat := List.replicate 32 0
theorem cre_z {w w' : World} {e : Ending} {g : Nat} {nb ob : Option Nat} (h : CreP w w' e g nb ob (mkD 1000 []) [112] z32) : ∃ gf nb' ob', e = .returned (.tuple #[.pointer (some ⟨gf, 0, none⟩), .int .i64 0]) ∧ Fl w' gf g nb' ob' ⟨1000, z32, z32, 32, false, -1, 0, 0⟩ (some (encK [112] z32)) ∧ w.heap.size ≤ gf ∧ w.grownBy w' (some g) := by
  have e1 : ((mkD 1000 []).append z32).1 = 0 := by kernel_rfl
  have e2 : ((mkD 1000 []).append z32).2.sync.1 = 0 := by kernel_rfl
  rcases h with ⟨h, _⟩ | ⟨_, h, _⟩ | ⟨_, _, gf, nb', ob', h1, h2, h3, _, _, h4⟩
  · exact absurd e1 h
  · exact absurd e2 h
  · exact ⟨gf, nb', ob', h1, h2, h3, h4⟩
theorem enc_nonce : (encK [112] z32).2.length = 8 := rfl
theorem app_z (T : List Nat) (hT : T.length = 3) : DkS.append ⟨1000, z32, z32, 32, false, -1, 0, 0⟩ T = (0, ⟨1000, z32 ++ T, z32, 32, false, -1, 0, 0⟩) := by
  have h1 : ¬ (1000 < z32.length + T.length) := by rw [hT]; decide
  have h2 : DkS.append ⟨1000, z32, z32, 32, false, -1, 0, 0⟩ T = (if 1000 < z32.length + T.length then (5, ⟨1000, z32, z32, 32, false, -1, 0, 0⟩) else (0, ⟨1000, z32 ++ T, z32, 32, false, -1, 0, 0⟩)) := rfl
  rw [h2, if_neg h1]
theorem read_z (T : List Nat) (hT : T.length = 3) : readL ⟨1000, z32 ++ T, z32, 32, false, -1, 0, 0⟩ 32 3 = T := by
  have h : readL ⟨1000, z32 ++ T, z32, 32, false, -1, 0, 0⟩ 32 3 = ((z32 ++ T).drop 32).take 3 := rfl
  rw [h, List.drop_append_of_le_length (by decide), show z32.drop 32 = [] from by decide, List.nil_append, List.take_of_length_le (by omega)]
set_option maxRecDepth 100000 in
set_option maxHeartbeats 8000000 in
theorem cryAwake_any (w : World) : Calls Try.prog 26 #[] w fun e w' => e = .returned (.bool true) ∧ Below w.heap.size w w' := by
  have kc := fun (w : World) (C : Array Value) (n c : Nat) => Lib.run_convert_bytes_const (P := Try.prog) w 26 5 C n c Try.underlying26 Try.underlying5
  have hm32 : ∀ W : World, (Instr.makeSlice 26 (.int .i64 32) (.int .i64 32)).run Try.prog W = .ok (.slice (some ⟨W.heap.size, 0, none⟩) 32 32) (W.alloc (.cells (madeCells #[.int .u8 0] 32) 5)) := fun W => run_mkn W 32 (by omega)
  go_enter Try.func26, Try.ntmps26
  go_wp2_with fail
  refine (new_any' 1000 w (by omega)).mono ?_
  rintro e w1 ⟨g, nb, ob, rfl, hd, hg, hnb, hob, hb⟩
  have D1 := Lib.hid hd
  have B1 := Lib.hid hb
  have G1 := Lib.hid (And.intro hg (And.intro hnb hob))
  clear hd hg hnb hob hb
  go_wp2_with fail
  refine (create_plain D1.out rfl none none 0 0).mono ?_
  rintro e w2 ⟨gf, rfl, hf, hgf, hb⟩
  have F2 := Lib.hid hf
  have B2 := Lib.hid (B1.out.trans (hb.mono B1.out.size))
  clear hf hgf hb
  go_wp2_with fail
  have hax := (Below.refl w2.heap.size w2).alloc (Nat.le_refl _) (.cells #[.int .u8 97, .int .u8 98, .int .u8 99] 5 (3, 3 + 1))
  refine (fappend_any (F2.out.below hax) (some ⟨w2.heap.size, 0, none⟩) 3 3 [97, 98, 99] rfl (by decide) (constW_rd w2 5 [97, 98, 99] (by decide) _)).mono ?_
  rintro e w3 ⟨r, rfl, ⟨nb3, ob3, hd3, hn3, ho3, hg3⟩, hr⟩
  obtain rfl : r = 0 := hr.trans (by kernel_rfl)
  have D3 : Hid (Dk w3 g nb3 ob3 ⟨1000, [97, 98, 99], [], 0, false, -1, 0, 0⟩) := hd3
  have F3 := Lib.hid ((F2.out.below hax).after hd3 hg3)
  have B3 : Hid (Below w.heap.size w w3) := below_of_grown (B2.out.trans (hax.mono B2.out.size)) hg3 (Nat.le_trans B2.out.size hax.size) G1.out.1
  clear hax hd3 hn3 ho3 hg3 hr F2
  go_wp2_with fail
  refine (image_any D3.out).mono ?_
  rintro e w4 ⟨v4, b4, rfl, ⟨A4, c4, rfl, -, -, hr4, -⟩, -, hb4⟩
  have hr4 : Rd w4 A4 [97, 98, 99] := hr4
  have hcv := conv_str hr4 c4
  have F4 := Lib.hid (F3.out.below hb4)
  have B4 := Lib.hid (B3.out.trans (hb4.mono B3.out.size))
  have hcv : (convert 26 9 (.slice A4 3 c4)).run Try.prog w4 = .ok (.string ⟨#[97, 98, 99]⟩) w4 := hcv
  clear hb4 hr4 F3 D3
  rw [show ((⟨1000, [97, 98, 99], [], 0, false, -1, 0, 0⟩ : DkS).now.length) = 3 from rfl]
  go_wp2_with fail
  refine (fplain_any F4.out).mono ?_
  rintro e w' ⟨rfl, rfl⟩
  rw [show decide (fromK none = 0) = true from rfl]
  clear hcv F4 D1 G1 B1 B2 B3
  go_wp2_with fail
  refine (new_any' 1000 w4 (by omega)).mono ?_
  rintro e w5 ⟨g5, nb5, ob5, rfl, hd5, hg5, hnb5, hob5, hb5⟩
  have D5 := Lib.hid hd5
  have B5 := Lib.hid (B4.out.trans (hb5.mono B4.out.size))
  have G5 := Lib.hid (show w.heap.size ≤ g5 from Nat.le_trans B4.out.size hg5)
  clear hd5 hg5 hnb5 hob5 hb5
  go_wp2_with fail
  have ha1 := (Below.refl w5.heap.size w5).alloc (Nat.le_refl _) (.cells #[.int .u8 112] 5 (1, 1 + 1))
  have hr1 := constW_rd w5 5 [112] (by decide) (1, 1 + 1)
  have ha2 := (Below.refl (w5.alloc (.cells #[.int .u8 112] 5 (1, 1 + 1))).heap.size (w5.alloc (.cells #[.int .u8 112] 5 (1, 1 + 1)))).alloc (Nat.le_refl _) (.cells (madeCells #[.int .u8 0] 32) 5)
  have hr2 := mk_rd (w5.alloc (.cells #[.int .u8 112] 5 (1, 1 + 1))) 32
  have hr1' := hr1.below ha2
  have ha3 : Below w5.heap.size w5 _ := ha1.trans (ha2.mono (by simp))
  rw [World.size_alloc] at hr2
  refine (create_any (D5.out.below ha3) rfl (some ⟨w5.heap.size, 0, none⟩) 1 1 [112] (some ⟨w5.heap.size + 1, 0, none⟩) 32 z32 rfl (by decide) (by decide) hr1' (by decide) (by decide) hr2).mono ?_
  intro e w6 hcr
  obtain ⟨gf6, nb6, ob6, rfl, hf6, hgf6, hg6⟩ := cre_z hcr
  obtain ⟨kb, hkb⟩ : ∃ kb, kb = (encK [112] z32).1 := ⟨_, rfl⟩
  obtain ⟨nc, hnc⟩ : ∃ nc, nc = (encK [112] z32).2 := ⟨_, rfl⟩
  have hK : encK [112] z32 = (kb, nc) := by rw [hkb, hnc]
  have hnl : nc.length = 8 := by rw [hnc]; exact enc_nonce
  rw [hK] at hf6
  have F6 := Lib.hid hf6
  have HKE := Lib.hid hK
  have B6 : Hid (Below w.heap.size w w6) := below_of_grown (B5.out.trans (ha3.mono B5.out.size)) hg6 (Nat.le_trans B5.out.size ha3.size) G5.out
  have hok : CtrOk nc.length ((32 : Nat) : Int) ([97, 98, 99] : List Nat).length := by
    rw [hnl]
    refine ⟨rfl, ?_, ?_, ?_, ?_⟩ <;> simp
  obtain ⟨T, hT⟩ : ∃ T, T = ctrT kb nc ((32 : Nat) : Int) [97, 98, 99] := ⟨_, rfl⟩
  have hTl : T.length = 3 := by rw [hT]; exact ctrT_ok_length hok
  have hTT : ctrT kb nc ((32 : Nat) : Int) T = [97, 98, 99] := by rw [hT]; exact ctrT_twice hok
  have HT := Lib.hid hT
  have HTL := Lib.hid hTl
  have HTT := Lib.hid hTT
  clear hkb hnc hK hnl hf6 hg6 hgf6 ha1 ha2 ha3 hr1 hr2 hr1' hok hT hTl hTT hcr D5 B5
  go_wp2_with fail
  have hax := (Below.refl w6.heap.size w6).alloc (Nat.le_refl _) (.cells #[.int .u8 97, .int .u8 98, .int .u8 99] 5 (3, 3 + 1))
  refine (fappend_any (F6.out.below hax) (some ⟨w6.heap.size, 0, none⟩) 3 3 [97, 98, 99] rfl (by decide) (constW_rd w6 5 [97, 98, 99] (by decide) _)).mono ?_
  rintro e w7 ⟨r, rfl, ⟨nb7, ob7, hd7, hn7, ho7, hg7⟩, hr⟩
  have hTe : turnK (some (kb, nc)) ((⟨1000, z32, z32, 32, false, -1, 0, 0⟩ : DkS).now.length : Nat) [97, 98, 99] = T := HT.out.symm
  rw [hTe, app_z T HTL.out] at hr hd7
  obtain rfl : r = 0 := hr
  have F7 : Hid (Fl w7 gf6 g5 nb7 ob7 ⟨1000, z32 ++ T, z32, 32, false, -1, 0, 0⟩ (some (kb, nc))) := (F6.out.below hax).after hd7 hg7
  have B7 : Hid (Below w.heap.size w w7) := below_of_grown (B6.out.trans (hax.mono B6.out.size)) hg7 (Nat.le_trans B6.out.size hax.size) G5.out
  clear hax hd7 hn7 ho7 hg7 hTe F6 B6
  go_wp2_with fail
  refine (fplain_any F7.out).mono ?_
  rintro e w' ⟨rfl, rfl⟩
  rw [show decide (fromK (some (kb, nc)) = 0) = false from rfl]
  go_wp2_with fail
  refine (fsize_any F7.out).mono ?_
  have hsz : ((⟨1000, z32 ++ T, z32, 32, false, -1, 0, 0⟩ : DkS).now.length) = 35 := by show (z32 ++ T).length = 35; rw [List.length_append, HTL.out]; rfl
  have HSZ := Lib.hid hsz
  rw [hsz, show 35 - fromK (some (kb, nc)) = 3 from rfl]
  clear hsz
  rintro e w8 ⟨rfl, hb8⟩
  have F8 := Lib.hid (F7.out.below hb8)
  have B8 := Lib.hid (B7.out.trans (hb8.mono B7.out.size))
  clear hb8 F7 B7
  go_wp2_with fail
  refine (size_any F8.out.dk).mono ?_
  rw [HSZ.out]
  rintro e w' ⟨rfl, rfl⟩
  go_wp2_with fail
  have hrd : ∀ (W : World) (nbx obx : Option Nat) (gfx : Nat), Fl W gfx g5 nbx obx ⟨1000, z32 ++ T, z32, 32, false, -1, 0, 0⟩ (some (kb, nc)) → Calls Try.prog 20 #[.pointer (some ⟨gfx, 0, none⟩), .int .i64 0, .int .i64 3] W fun e w' => ∃ A' c', e = .returned (.tuple #[.slice A' 3 c', .int .i64 0]) ∧ Rd w' A' [97, 98, 99] ∧ (∀ gfy, Fl W gfy g5 nbx obx ⟨1000, z32 ++ T, z32, 32, false, -1, 0, 0⟩ (some (kb, nc)) → Fl w' gfy g5 nbx obx ⟨1000, z32 ++ T, z32, 32, false, -1, 0, 0⟩ (some (kb, nc))) ∧ W.grownBy w' (some g5) := by
    intro W nbx obx gfx hF
    refine (fread_any hF 0 3 (by rw [HSZ.out]; show 32 + 0 + 3 ≤ 35; decide)).mono ?_
    rintro e w' ⟨A', c', L, rfl, h1, h2, h3, h4, h5⟩
    have hz : (DkS.op ⟨1000, z32 ++ T, z32, 32, false, -1, 0, 0⟩ fun d => ((0 : Int), d)).1 = 0 := rfl
    have hL := h2 hz
    have e1 : turnK (some (kb, nc)) ((fromK (some (kb, nc)) + 0 : Nat) : Int) (readL ⟨1000, z32 ++ T, z32, 32, false, -1, 0, 0⟩ (fromK (some (kb, nc)) + 0) 3) = ctrT kb nc ((32 : Nat) : Int) (readL ⟨1000, z32 ++ T, z32, 32, false, -1, 0, 0⟩ 32 3) := rfl
    rw [e1, read_z T HTL.out, HTT.out] at hL
    subst hL
    exact ⟨A', c', rfl, h1, fun gfy hy => hy.after h4 h5, h5⟩
  have HRDF := Lib.hid hrd
  clear hrd
  refine (HRDF.out _ _ _ _ F8.out).mono ?_
  rintro e w9 ⟨A9, c9, rfl, hr9, hk9, hg9⟩
  have F9 := Lib.hid (hk9 _ F8.out)
  have B9 : Hid (Below w.heap.size w w9) := below_of_grown B8.out hg9 B8.out.size G5.out
  have R9 := Lib.hid hr9
  clear hr9 hk9 hg9 F8 B8
  go_wp2_with fail
  have hax := (Below.refl w9.heap.size w9).alloc (Nat.le_refl _) (.cells #[.int .u8 112] 5 (1, 1 + 1))
  refine (open_any (F9.out.below hax).dk (by rw [HSZ.out]; decide) rfl (some ⟨w9.heap.size, 0, none⟩) 1 1 [112] rfl (by decide) (by decide) (constW_rd w9 5 [112] (by decide) _)).mono ?_
  rintro e w10 ⟨gf10, rfl, hf10, hgf10, hg10⟩
  have htk : (⟨1000, z32 ++ T, z32, 32, false, -1, 0, 0⟩ : DkS).now.take 32 = z32 := by show (z32 ++ T).take 32 = z32; rw [List.take_append_of_le_length (by decide)]; decide
  rw [htk, HKE.out] at hf10
  have F10 : Hid (Fl w10 gf10 g5 nb7 ob7 ⟨1000, z32 ++ T, z32, 32, false, -1, 0, 0⟩ (some (kb, nc))) := hf10
  have B10 : Hid (Below w.heap.size w w10) := below_of_grown (B9.out.trans (hax.mono B9.out.size)) hg10 (Nat.le_trans B9.out.size hax.size) G5.out
  have R10 := Lib.hid ((F9.out.below hax).dk.rd (R9.out.below hax) hg10)
  clear hax hf10 hgf10 hg10 htk F9 R9 B9
  go_wp2_with fail
  refine (HRDF.out _ _ _ _ F10.out).mono ?_
  rintro e w11 ⟨A11, c11, rfl, hr11, hk11, hg11⟩
  have F11 := Lib.hid (hk11 _ F10.out)
  have B11 : Hid (Below w.heap.size w w11) := below_of_grown B10.out hg11 B10.out.size G5.out
  have R11 := Lib.hid hr11
  have R9 := Lib.hid (F10.out.dk.rd R10.out hg11)
  clear hr11 hk11 hg11 F10 B10 R10
  go_wp2_with fail
  refine (create_state F11.out.dk (by rw [HSZ.out]; decide) _ _).mono ?_
  rintro e w12 ⟨rfl, hb12⟩
  have B12 := Lib.hid (B11.out.trans (hb12.mono B11.out.size))
  have hv9 : (convert 26 9 (.slice A9 3 c9)).run Try.prog w12 = .ok (.string ⟨#[97, 98, 99]⟩) w12 := conv_str (R9.out.below hb12) c9
  have hv11 : (convert 26 9 (.slice A11 3 c11)).run Try.prog w12 = .ok (.string ⟨#[97, 98, 99]⟩) w12 := conv_str (R11.out.below hb12) c11
  clear hb12
  go_wp2_with fail
  go_ret
  exact ⟨rfl, B12.out⟩
end Go.Proofs.Ytmldpamkghdohaa
