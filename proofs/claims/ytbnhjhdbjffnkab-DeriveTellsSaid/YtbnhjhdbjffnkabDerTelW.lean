/-
  THE WALK OF quillpresslaw04.DeriveTells: it returns true. Conditions: the arguments read.
-/
import Derived.Test.YtbnhjhdbjffnkabDerNumW
import Derived.Test.YtbnhjhdbjffnkabSlices2
import Derived.Test.YtbnhjhdbjffnkabRow
import Derived.Deep.QuietTactic
namespace Go.Proofs.Ytbnhjhdbjffnkab
open Go.RowKit
set_option linter.unusedSimpArgs false
set_option linter.unusedVariables false

theorem lentb_n (A : Option Addr) (n c : Nat) (l : List Nat) (w : World) (hn : n = l.length) (h : Rd w A l) (hl : l.length ≤ 140737488355320) :
    Calls Try.prog 15 #[.slice A n c] w fun e w' => ∃ g c', e = .returned (.slice (some ⟨g, 0, none⟩) l.length c') ∧ Lent w' w.heap.size (.slice (some ⟨g, 0, none⟩) l.length c') l ∧ Below w.heap.size w w' := by
  subst hn
  refine (lentb_any A c l w h hl).mono fun e w' ⟨v, he, hv, hb⟩ => ?_
  obtain ⟨g, c', rfl, r⟩ := hv
  exact ⟨g, c', he, ⟨g, c', rfl, r⟩, hb⟩
theorem kept_n (v : Value) (base : Nat) (A2 : Option Addr) (n c2 : Nat) (l : List Nat) (w : World) (hn : n = l.length) (hv : Lent w base v l) (h : Rd w A2 l) (hl : l.length ≤ 140737488355320) :
    Calls Try.prog 17 #[v, .slice A2 n c2] w fun e w' => e = .returned (.bool true) ∧ Below w.heap.size w w' := by
  subst hn
  exact kept_lent v base A2 c2 l w hv h hl
theorem Lent.app {w : World} {base g c n : Nat} {l : List Nat} (h : Lent w base (.slice (some ⟨g, 0, none⟩) n c) l) : Rd w (some ⟨g, 0, none⟩) l := by
  obtain ⟨g', c', e, _, _, hr⟩ := h
  injection e with e1
  injection e1 with e1
  injection e1 with e1
  subst e1
  refine ⟨fun x hx => hr.1 x (by simp [hx]), fun hn => ?_⟩
  obtain ⟨g, o, e, hg, hc⟩ := hr.2 (by simp [hn])
  refine ⟨g, o, e, hg, fun i hi => ?_⟩
  rw [hc i (by simp; omega)]
  simp [nth, List.getElem?_append_left hi]
theorem hmac_eq (k b : List Nat) (V : World) : (Op.equalIn 10000 30 (bytesV (hmac k b)) (bytesV (hmac k b))).run Try.prog V = .ok true V := shaC_eq _ V
set_option maxRecDepth 100000 in
set_option maxHeartbeats 8000000 in
theorem deriveTells_any (A : Option Addr) (c : Nat) (key : List Nat) (B : Option Addr) (d : Nat) (b : List Nat) (r n : Int) (w : World) (hA : Rd w A key) (hc : key.length ≤ c) (hB : Rd w B b) (hd : b.length ≤ d) :
    Calls Try.prog 6 #[.slice A key.length c, .slice B b.length d, .int .i64 r, .int .i64 n] w fun e w' => e = .returned (.bool true) ∧ Below w.heap.size w w' := by
  obtain ⟨u, hu⟩ : ∃ u, u = min key.length 300 := ⟨_, rfl⟩
  obtain ⟨v, hv⟩ : ∃ v, v = min b.length 600 := ⟨_, rfl⟩
  have k0 : (if (300 : Int) < key.length then (300 : Int) else key.length) = u := by split <;> omega
  have k1 : (if (600 : Int) < b.length then (600 : Int) else b.length) = v := by split <;> omega
  have m1 : (u : Int) ≤ c := by omega
  have m2 : u ≤ c := by omega
  have m3 : (v : Int) ≤ d := by omega
  have m4 : v ≤ d := by omega
  have u3 : u ≤ 300 := by omega
  have v6 : v ≤ 600 := by omega
  obtain ⟨K, hul, hAK⟩ : ∃ K : List Nat, u = K.length ∧ Rd w A K := ⟨key.take u, by rw [List.length_take]; omega, rd_take hA u⟩
  obtain ⟨S, hvl, hBS⟩ : ∃ S : List Nat, v = S.length ∧ Rd w B S := ⟨b.take v, by rw [List.length_take]; omega, rd_take hB v⟩
  have HUL := Lib.hid hul
  have HVL := Lib.hid hvl
  have HA := Lib.hid hAK
  have HB := Lib.hid hBS
  clear hu hv hul hvl hA hB hAK hBS
  by_cases h1 : 8 < r ∧ r ≤ 1000
  · obtain ⟨h2, h3⟩ := h1
    obtain ⟨R, rfl⟩ : ∃ R : Nat, r = R := ⟨r.toNat, by omega⟩
    obtain ⟨rho, hrho⟩ : ∃ x, x = 1 + R % 8 := ⟨_, rfl⟩
    have q1 : IntKind.i64.wrap (1 + (R : Int) % 8) = (rho : Int) := by simp [IntKind.wrap, IntKind.signed, IntKind.bits]; omega
    have rr1 : 1 ≤ rho := by omega
    have rr2 : rho ≤ 8 := by omega
    clear hrho
    by_cases hn : 0 ≤ n ∧ n ≤ 1024
    · obtain ⟨N, rfl⟩ : ∃ N : Nat, n = N := ⟨n.toNat, by omega⟩
      have hN : N ≤ 1024 := by omega
      clear hn
      go_enter Try.func6, Try.ntmps6
      go_upto_region 1 with fail
      go_quiet (fail)
      go_upto_region 2 with fail
      have hra := HA.out.below (below_drewN' (Below.refl w.heap.size w) nq)
      have hrb := HB.out.below (below_drewN' (Below.refl w.heap.size w) nq)
      have hbw := below_drewN' (Below.refl w.heap.size w) nq
      generalize w.drewN nq = W at *
      have HRA := Lib.hid hra
      have HRB := Lib.hid hrb
      have HBW := Lib.hid hbw
      clear hra hrb hbw HA HB
      go_wp2_with fail
      refine (lentb_n A u c K W HUL.out HRA.out (by rw [← HUL.out]; omega)).mono ?_
      rintro e w1 ⟨g1, c1, rfl, hl1, hb1⟩
      have HL1 := Lib.hid hl1
      have HB1 := Lib.hid hb1
      clear hl1 hb1
      go_wp2_with fail
      refine (lentb_n B v d S w1 HVL.out (HRB.out.below HB1.out) (by rw [← HVL.out]; omega)).mono ?_
      rintro e w2 ⟨g2, c2, rfl, hl2, hb2⟩
      replace HL1 := Lib.hid (HL1.out.below hb2)
      have HL2 := Lib.hid hl2
      replace HB1 := Lib.hid (HB1.out.trans (hb2.mono HB1.out.size))
      clear hl2 hb2
      go_wp2_with fail
      refine (pbkdf2_any (some ⟨g1, 0, none⟩) _ c1 K (some ⟨g2, 0, none⟩) _ c2 S rho N w2 rfl (by rw [← HUL.out]; omega) HL1.out.app rfl (by rw [← HVL.out]; omega) HL2.out.app (by omega) (by omega) (by omega)).mono ?_
      rintro e w3 ⟨A3, c3, rfl, -, hr3, hb3⟩
      obtain ⟨LL, hLL⟩ : ∃ L, L = (pbAll K S (rho - 1) ((N + 31) / 32)).take N := ⟨_, rfl⟩
      have hln : LL.length = N := by rw [hLL, List.length_take, pbAll_length]; omega
      rw [← hLL] at hr3
      have HR3 := Lib.hid hr3
      have HLL := Lib.hid hLL
      have HLN := Lib.hid hln
      clear hr3 hLL hln
      replace HL1 := Lib.hid (HL1.out.below hb3)
      replace HL2 := Lib.hid (HL2.out.below hb3)
      replace HB1 := Lib.hid (HB1.out.trans (hb3.mono HB1.out.size))
      clear hb3
      go_wp2_with fail
      refine (rpbkdf2_any A u c K B v d S rho N w3 HUL.out (by rw [← HUL.out]; omega) (HRA.out.below HB1.out) HVL.out (by rw [← HVL.out]; omega) (HRB.out.below HB1.out) (by omega) (by omega) (by omega)).mono ?_
      rintro e w4 ⟨A4, c4, rfl, -, hr4, hb4⟩
      rw [← HLL.out] at hr4
      have HR4 := Lib.hid hr4
      replace HR3 := Lib.hid (HR3.out.below hb4)
      clear hr4
      replace HL1 := Lib.hid (HL1.out.below hb4)
      replace HL2 := Lib.hid (HL2.out.below hb4)
      replace HB1 := Lib.hid (HB1.out.trans (hb4.mono HB1.out.size))
      clear hb4
      go_wp2_with fail
      refine (hmac_c (some ⟨g1, 0, none⟩) _ c1 K (some ⟨g2, 0, none⟩) _ c2 S w4 rfl (by rw [← HUL.out]; omega) HL1.out.app rfl (by rw [← HVL.out]; omega) HL2.out.app).mono ?_
      rintro e w5 ⟨rfl, hb5⟩
      try replace HR3 := Lib.hid (HR3.out.below hb5)
      try replace HR4 := Lib.hid (HR4.out.below hb5)
      replace HL1 := Lib.hid (HL1.out.below hb5)
      replace HL2 := Lib.hid (HL2.out.below hb5)
      replace HB1 := Lib.hid (HB1.out.trans (hb5.mono HB1.out.size))
      clear hb5
      go_wp2_with fail
      refine (rhmac_any A u c K B v d S w5 HUL.out (by rw [← HUL.out]; omega) (HRA.out.below HB1.out) HVL.out (by rw [← HVL.out]; omega) (HRB.out.below HB1.out)).mono ?_
      rintro e w6 ⟨rfl, hb6⟩
      have heq := hmac_eq K S
      obtain ⟨Cv, hCv⟩ : ∃ C, bytesV (hmac K S) = .agg C := ⟨_, rfl⟩
      rw [hCv] at heq ⊢
      clear hCv
      try replace HR3 := Lib.hid (HR3.out.below hb6)
      try replace HR4 := Lib.hid (HR4.out.below hb6)
      replace HL1 := Lib.hid (HL1.out.below hb6)
      replace HL2 := Lib.hid (HL2.out.below hb6)
      replace HB1 := Lib.hid (HB1.out.trans (hb6.mono HB1.out.size))
      clear hb6
      go_wp2_with fail
      refine (same_tt A3 A4 N N c3 c4 LL w6 HLN.out.symm HLN.out.symm HR3.out HR4.out (by rw [HLN.out]; omega)).mono ?_
      rintro e w7 ⟨rfl, hb7⟩
      replace HL1 := Lib.hid (HL1.out.below hb7)
      replace HL2 := Lib.hid (HL2.out.below hb7)
      replace HB1 := Lib.hid (HB1.out.trans (hb7.mono HB1.out.size))
      clear hb7
      go_wp2_with fail
      refine (kept_n _ _ A u c K w7 HUL.out HL1.out (HRA.out.below HB1.out) (by rw [← HUL.out]; omega)).mono ?_
      rintro e w8 ⟨rfl, hb8⟩
      replace HL1 := Lib.hid (HL1.out.below hb8)
      replace HL2 := Lib.hid (HL2.out.below hb8)
      replace HB1 := Lib.hid (HB1.out.trans (hb8.mono HB1.out.size))
      clear hb8
      go_wp2_with fail
      refine (kept_n _ _ B v d S w8 HVL.out HL2.out (HRB.out.below HB1.out) (by rw [← HVL.out]; omega)).mono ?_
      rintro e w9 ⟨rfl, hb9⟩
      replace HL1 := Lib.hid (HL1.out.below hb9)
      replace HL2 := Lib.hid (HL2.out.below hb9)
      replace HB1 := Lib.hid (HB1.out.trans (hb9.mono HB1.out.size))
      clear hb9
      go_wp2_with fail
      refine (derAwake_any w9).mono ?_
      rintro e w10 ⟨rfl, hb10⟩
      replace HL1 := Lib.hid (HL1.out.below hb10)
      replace HL2 := Lib.hid (HL2.out.below hb10)
      replace HB1 := Lib.hid (HB1.out.trans (hb10.mono HB1.out.size))
      clear hb10
      go_wp2_with fail
      go_ret
      exact ⟨rfl, HBW.out.trans (HB1.out.mono HBW.out.size)⟩
    · go_enter Try.func6, Try.ntmps6
      go_upto_region 1 with fail
      go_quiet (fail)
      go_upto_region 2 with fail
      have hra := HA.out.below (below_drewN' (Below.refl w.heap.size w) nq)
      have hrb := HB.out.below (below_drewN' (Below.refl w.heap.size w) nq)
      have hbw := below_drewN' (Below.refl w.heap.size w) nq
      generalize w.drewN nq = W at *
      have HRA := Lib.hid hra
      have HRB := Lib.hid hrb
      have HBW := Lib.hid hbw
      clear hra hrb hbw HA HB
      go_wp2_with fail
      refine (lentb_n A u c K W HUL.out HRA.out (by rw [← HUL.out]; omega)).mono ?_
      rintro e w1 ⟨g1, c1, rfl, hl1, hb1⟩
      have HL1 := Lib.hid hl1
      have HB1 := Lib.hid hb1
      clear hl1 hb1
      go_wp2_with fail
      refine (lentb_n B v d S w1 HVL.out (HRB.out.below HB1.out) (by rw [← HVL.out]; omega)).mono ?_
      rintro e w2 ⟨g2, c2, rfl, hl2, hb2⟩
      replace HL1 := Lib.hid (HL1.out.below hb2)
      have HL2 := Lib.hid hl2
      replace HB1 := Lib.hid (HB1.out.trans (hb2.mono HB1.out.size))
      clear hl2 hb2
      go_wp2_with fail
      refine (pbkdf2_no _ _ (rho : Int) n (by omega) w2).mono ?_
      rintro e w' ⟨rfl, rfl⟩
      go_wp2_with fail
      refine (rpbkdf2_no _ _ (rho : Int) n (by omega) w2).mono ?_
      rintro e w' ⟨rfl, rfl⟩
      go_wp2_with fail
      refine (hmac_c (some ⟨g1, 0, none⟩) _ c1 K (some ⟨g2, 0, none⟩) _ c2 S w2 rfl (by rw [← HUL.out]; omega) HL1.out.app rfl (by rw [← HVL.out]; omega) HL2.out.app).mono ?_
      rintro e w5 ⟨rfl, hb5⟩
      replace HL1 := Lib.hid (HL1.out.below hb5)
      replace HL2 := Lib.hid (HL2.out.below hb5)
      replace HB1 := Lib.hid (HB1.out.trans (hb5.mono HB1.out.size))
      clear hb5
      go_wp2_with fail
      refine (rhmac_any A u c K B v d S w5 HUL.out (by rw [← HUL.out]; omega) (HRA.out.below HB1.out) HVL.out (by rw [← HVL.out]; omega) (HRB.out.below HB1.out)).mono ?_
      rintro e w6 ⟨rfl, hb6⟩
      have heq := hmac_eq K S
      obtain ⟨Cv, hCv⟩ : ∃ C, bytesV (hmac K S) = .agg C := ⟨_, rfl⟩
      rw [hCv] at heq ⊢
      clear hCv
      replace HL1 := Lib.hid (HL1.out.below hb6)
      replace HL2 := Lib.hid (HL2.out.below hb6)
      replace HB1 := Lib.hid (HB1.out.trans (hb6.mono HB1.out.size))
      clear hb6
      go_wp2_with fail
      refine (same_tt none none 0 0 0 0 [] w6 rfl rfl Rd.nil Rd.nil (by simp)).mono ?_
      rintro e w7 ⟨rfl, hb7⟩
      replace HL1 := Lib.hid (HL1.out.below hb7)
      replace HL2 := Lib.hid (HL2.out.below hb7)
      replace HB1 := Lib.hid (HB1.out.trans (hb7.mono HB1.out.size))
      clear hb7
      go_wp2_with fail
      refine (kept_n _ _ A u c K w7 HUL.out HL1.out (HRA.out.below HB1.out) (by rw [← HUL.out]; omega)).mono ?_
      rintro e w8 ⟨rfl, hb8⟩
      replace HL1 := Lib.hid (HL1.out.below hb8)
      replace HL2 := Lib.hid (HL2.out.below hb8)
      replace HB1 := Lib.hid (HB1.out.trans (hb8.mono HB1.out.size))
      clear hb8
      go_wp2_with fail
      refine (kept_n _ _ B v d S w8 HVL.out HL2.out (HRB.out.below HB1.out) (by rw [← HVL.out]; omega)).mono ?_
      rintro e w9 ⟨rfl, hb9⟩
      replace HL1 := Lib.hid (HL1.out.below hb9)
      replace HL2 := Lib.hid (HL2.out.below hb9)
      replace HB1 := Lib.hid (HB1.out.trans (hb9.mono HB1.out.size))
      clear hb9
      go_wp2_with fail
      refine (derAwake_any w9).mono ?_
      rintro e w10 ⟨rfl, hb10⟩
      replace HL1 := Lib.hid (HL1.out.below hb10)
      replace HL2 := Lib.hid (HL2.out.below hb10)
      replace HB1 := Lib.hid (HB1.out.trans (hb10.mono HB1.out.size))
      clear hb10
      go_wp2_with fail
      go_ret
      exact ⟨rfl, HBW.out.trans (HB1.out.mono HBW.out.size)⟩
  · by_cases h4 : 8 < r
    · have h5 : ¬ r ≤ 1000 := fun h => h1 ⟨h4, h⟩
      clear h1
      go_enter Try.func6, Try.ntmps6
      go_upto_region 1 with fail
      go_quiet (fail)
      go_upto_region 2 with fail
      have hra := HA.out.below (below_drewN' (Below.refl w.heap.size w) nq)
      have hrb := HB.out.below (below_drewN' (Below.refl w.heap.size w) nq)
      have hbw := below_drewN' (Below.refl w.heap.size w) nq
      generalize w.drewN nq = W at *
      have HRA := Lib.hid hra
      have HRB := Lib.hid hrb
      have HBW := Lib.hid hbw
      clear hra hrb hbw HA HB
      go_wp2_with fail
      refine (lentb_n A u c K W HUL.out HRA.out (by rw [← HUL.out]; omega)).mono ?_
      rintro e w1 ⟨g1, c1, rfl, hl1, hb1⟩
      have HL1 := Lib.hid hl1
      have HB1 := Lib.hid hb1
      clear hl1 hb1
      go_wp2_with fail
      refine (lentb_n B v d S w1 HVL.out (HRB.out.below HB1.out) (by rw [← HVL.out]; omega)).mono ?_
      rintro e w2 ⟨g2, c2, rfl, hl2, hb2⟩
      replace HL1 := Lib.hid (HL1.out.below hb2)
      have HL2 := Lib.hid hl2
      replace HB1 := Lib.hid (HB1.out.trans (hb2.mono HB1.out.size))
      clear hl2 hb2
      go_wp2_with fail
      refine (pbkdf2_no _ _ r n (by omega) w2).mono ?_
      rintro e w' ⟨rfl, rfl⟩
      go_wp2_with fail
      refine (rpbkdf2_no _ _ r n (by omega) w2).mono ?_
      rintro e w' ⟨rfl, rfl⟩
      go_wp2_with fail
      refine (hmac_c (some ⟨g1, 0, none⟩) _ c1 K (some ⟨g2, 0, none⟩) _ c2 S w2 rfl (by rw [← HUL.out]; omega) HL1.out.app rfl (by rw [← HVL.out]; omega) HL2.out.app).mono ?_
      rintro e w5 ⟨rfl, hb5⟩
      replace HL1 := Lib.hid (HL1.out.below hb5)
      replace HL2 := Lib.hid (HL2.out.below hb5)
      replace HB1 := Lib.hid (HB1.out.trans (hb5.mono HB1.out.size))
      clear hb5
      go_wp2_with fail
      refine (rhmac_any A u c K B v d S w5 HUL.out (by rw [← HUL.out]; omega) (HRA.out.below HB1.out) HVL.out (by rw [← HVL.out]; omega) (HRB.out.below HB1.out)).mono ?_
      rintro e w6 ⟨rfl, hb6⟩
      have heq := hmac_eq K S
      obtain ⟨Cv, hCv⟩ : ∃ C, bytesV (hmac K S) = .agg C := ⟨_, rfl⟩
      rw [hCv] at heq ⊢
      clear hCv
      replace HL1 := Lib.hid (HL1.out.below hb6)
      replace HL2 := Lib.hid (HL2.out.below hb6)
      replace HB1 := Lib.hid (HB1.out.trans (hb6.mono HB1.out.size))
      clear hb6
      go_wp2_with fail
      refine (same_tt none none 0 0 0 0 [] w6 rfl rfl Rd.nil Rd.nil (by simp)).mono ?_
      rintro e w7 ⟨rfl, hb7⟩
      replace HL1 := Lib.hid (HL1.out.below hb7)
      replace HL2 := Lib.hid (HL2.out.below hb7)
      replace HB1 := Lib.hid (HB1.out.trans (hb7.mono HB1.out.size))
      clear hb7
      go_wp2_with fail
      refine (kept_n _ _ A u c K w7 HUL.out HL1.out (HRA.out.below HB1.out) (by rw [← HUL.out]; omega)).mono ?_
      rintro e w8 ⟨rfl, hb8⟩
      replace HL1 := Lib.hid (HL1.out.below hb8)
      replace HL2 := Lib.hid (HL2.out.below hb8)
      replace HB1 := Lib.hid (HB1.out.trans (hb8.mono HB1.out.size))
      clear hb8
      go_wp2_with fail
      refine (kept_n _ _ B v d S w8 HVL.out HL2.out (HRB.out.below HB1.out) (by rw [← HVL.out]; omega)).mono ?_
      rintro e w9 ⟨rfl, hb9⟩
      replace HL1 := Lib.hid (HL1.out.below hb9)
      replace HL2 := Lib.hid (HL2.out.below hb9)
      replace HB1 := Lib.hid (HB1.out.trans (hb9.mono HB1.out.size))
      clear hb9
      go_wp2_with fail
      refine (derAwake_any w9).mono ?_
      rintro e w10 ⟨rfl, hb10⟩
      replace HL1 := Lib.hid (HL1.out.below hb10)
      replace HL2 := Lib.hid (HL2.out.below hb10)
      replace HB1 := Lib.hid (HB1.out.trans (hb10.mono HB1.out.size))
      clear hb10
      go_wp2_with fail
      go_ret
      exact ⟨rfl, HBW.out.trans (HB1.out.mono HBW.out.size)⟩
    · clear h1
      by_cases hn : 1 ≤ r ∧ 0 ≤ n ∧ n ≤ 1024
      · obtain ⟨N, rfl⟩ : ∃ N : Nat, n = N := ⟨n.toNat, by omega⟩
        obtain ⟨rho, rfl⟩ : ∃ rho : Nat, r = rho := ⟨r.toNat, by omega⟩
        have hN : N ≤ 1024 := by omega
        have rr1 : 1 ≤ rho := by omega
        have rr2 : rho ≤ 8 := by omega
        clear hn
        go_enter Try.func6, Try.ntmps6
        go_upto_region 1 with fail
        go_quiet (fail)
        go_upto_region 2 with fail
        have hra := HA.out.below (below_drewN' (Below.refl w.heap.size w) nq)
        have hrb := HB.out.below (below_drewN' (Below.refl w.heap.size w) nq)
        have hbw := below_drewN' (Below.refl w.heap.size w) nq
        generalize w.drewN nq = W at *
        have HRA := Lib.hid hra
        have HRB := Lib.hid hrb
        have HBW := Lib.hid hbw
        clear hra hrb hbw HA HB
        go_wp2_with fail
        refine (lentb_n A u c K W HUL.out HRA.out (by rw [← HUL.out]; omega)).mono ?_
        rintro e w1 ⟨g1, c1, rfl, hl1, hb1⟩
        have HL1 := Lib.hid hl1
        have HB1 := Lib.hid hb1
        clear hl1 hb1
        go_wp2_with fail
        refine (lentb_n B v d S w1 HVL.out (HRB.out.below HB1.out) (by rw [← HVL.out]; omega)).mono ?_
        rintro e w2 ⟨g2, c2, rfl, hl2, hb2⟩
        replace HL1 := Lib.hid (HL1.out.below hb2)
        have HL2 := Lib.hid hl2
        replace HB1 := Lib.hid (HB1.out.trans (hb2.mono HB1.out.size))
        clear hl2 hb2
        go_wp2_with fail
        refine (pbkdf2_any (some ⟨g1, 0, none⟩) _ c1 K (some ⟨g2, 0, none⟩) _ c2 S rho N w2 rfl (by rw [← HUL.out]; omega) HL1.out.app rfl (by rw [← HVL.out]; omega) HL2.out.app (by omega) (by omega) (by omega)).mono ?_
        rintro e w3 ⟨A3, c3, rfl, -, hr3, hb3⟩
        obtain ⟨LL, hLL⟩ : ∃ L, L = (pbAll K S (rho - 1) ((N + 31) / 32)).take N := ⟨_, rfl⟩
        have hln : LL.length = N := by rw [hLL, List.length_take, pbAll_length]; omega
        rw [← hLL] at hr3
        have HR3 := Lib.hid hr3
        have HLL := Lib.hid hLL
        have HLN := Lib.hid hln
        clear hr3 hLL hln
        replace HL1 := Lib.hid (HL1.out.below hb3)
        replace HL2 := Lib.hid (HL2.out.below hb3)
        replace HB1 := Lib.hid (HB1.out.trans (hb3.mono HB1.out.size))
        clear hb3
        go_wp2_with fail
        refine (rpbkdf2_any A u c K B v d S rho N w3 HUL.out (by rw [← HUL.out]; omega) (HRA.out.below HB1.out) HVL.out (by rw [← HVL.out]; omega) (HRB.out.below HB1.out) (by omega) (by omega) (by omega)).mono ?_
        rintro e w4 ⟨A4, c4, rfl, -, hr4, hb4⟩
        rw [← HLL.out] at hr4
        have HR4 := Lib.hid hr4
        replace HR3 := Lib.hid (HR3.out.below hb4)
        clear hr4
        replace HL1 := Lib.hid (HL1.out.below hb4)
        replace HL2 := Lib.hid (HL2.out.below hb4)
        replace HB1 := Lib.hid (HB1.out.trans (hb4.mono HB1.out.size))
        clear hb4
        go_wp2_with fail
        refine (hmac_c (some ⟨g1, 0, none⟩) _ c1 K (some ⟨g2, 0, none⟩) _ c2 S w4 rfl (by rw [← HUL.out]; omega) HL1.out.app rfl (by rw [← HVL.out]; omega) HL2.out.app).mono ?_
        rintro e w5 ⟨rfl, hb5⟩
        try replace HR3 := Lib.hid (HR3.out.below hb5)
        try replace HR4 := Lib.hid (HR4.out.below hb5)
        replace HL1 := Lib.hid (HL1.out.below hb5)
        replace HL2 := Lib.hid (HL2.out.below hb5)
        replace HB1 := Lib.hid (HB1.out.trans (hb5.mono HB1.out.size))
        clear hb5
        go_wp2_with fail
        refine (rhmac_any A u c K B v d S w5 HUL.out (by rw [← HUL.out]; omega) (HRA.out.below HB1.out) HVL.out (by rw [← HVL.out]; omega) (HRB.out.below HB1.out)).mono ?_
        rintro e w6 ⟨rfl, hb6⟩
        have heq := hmac_eq K S
        obtain ⟨Cv, hCv⟩ : ∃ C, bytesV (hmac K S) = .agg C := ⟨_, rfl⟩
        rw [hCv] at heq ⊢
        clear hCv
        try replace HR3 := Lib.hid (HR3.out.below hb6)
        try replace HR4 := Lib.hid (HR4.out.below hb6)
        replace HL1 := Lib.hid (HL1.out.below hb6)
        replace HL2 := Lib.hid (HL2.out.below hb6)
        replace HB1 := Lib.hid (HB1.out.trans (hb6.mono HB1.out.size))
        clear hb6
        go_wp2_with fail
        refine (same_tt A3 A4 N N c3 c4 LL w6 HLN.out.symm HLN.out.symm HR3.out HR4.out (by rw [HLN.out]; omega)).mono ?_
        rintro e w7 ⟨rfl, hb7⟩
        replace HL1 := Lib.hid (HL1.out.below hb7)
        replace HL2 := Lib.hid (HL2.out.below hb7)
        replace HB1 := Lib.hid (HB1.out.trans (hb7.mono HB1.out.size))
        clear hb7
        go_wp2_with fail
        refine (kept_n _ _ A u c K w7 HUL.out HL1.out (HRA.out.below HB1.out) (by rw [← HUL.out]; omega)).mono ?_
        rintro e w8 ⟨rfl, hb8⟩
        replace HL1 := Lib.hid (HL1.out.below hb8)
        replace HL2 := Lib.hid (HL2.out.below hb8)
        replace HB1 := Lib.hid (HB1.out.trans (hb8.mono HB1.out.size))
        clear hb8
        go_wp2_with fail
        refine (kept_n _ _ B v d S w8 HVL.out HL2.out (HRB.out.below HB1.out) (by rw [← HVL.out]; omega)).mono ?_
        rintro e w9 ⟨rfl, hb9⟩
        replace HL1 := Lib.hid (HL1.out.below hb9)
        replace HL2 := Lib.hid (HL2.out.below hb9)
        replace HB1 := Lib.hid (HB1.out.trans (hb9.mono HB1.out.size))
        clear hb9
        go_wp2_with fail
        refine (derAwake_any w9).mono ?_
        rintro e w10 ⟨rfl, hb10⟩
        replace HL1 := Lib.hid (HL1.out.below hb10)
        replace HL2 := Lib.hid (HL2.out.below hb10)
        replace HB1 := Lib.hid (HB1.out.trans (hb10.mono HB1.out.size))
        clear hb10
        go_wp2_with fail
        go_ret
        exact ⟨rfl, HBW.out.trans (HB1.out.mono HBW.out.size)⟩
      · go_enter Try.func6, Try.ntmps6
        go_upto_region 1 with fail
        go_quiet (fail)
        go_upto_region 2 with fail
        have hra := HA.out.below (below_drewN' (Below.refl w.heap.size w) nq)
        have hrb := HB.out.below (below_drewN' (Below.refl w.heap.size w) nq)
        have hbw := below_drewN' (Below.refl w.heap.size w) nq
        generalize w.drewN nq = W at *
        have HRA := Lib.hid hra
        have HRB := Lib.hid hrb
        have HBW := Lib.hid hbw
        clear hra hrb hbw HA HB
        go_wp2_with fail
        refine (lentb_n A u c K W HUL.out HRA.out (by rw [← HUL.out]; omega)).mono ?_
        rintro e w1 ⟨g1, c1, rfl, hl1, hb1⟩
        have HL1 := Lib.hid hl1
        have HB1 := Lib.hid hb1
        clear hl1 hb1
        go_wp2_with fail
        refine (lentb_n B v d S w1 HVL.out (HRB.out.below HB1.out) (by rw [← HVL.out]; omega)).mono ?_
        rintro e w2 ⟨g2, c2, rfl, hl2, hb2⟩
        replace HL1 := Lib.hid (HL1.out.below hb2)
        have HL2 := Lib.hid hl2
        replace HB1 := Lib.hid (HB1.out.trans (hb2.mono HB1.out.size))
        clear hl2 hb2
        go_wp2_with fail
        refine (pbkdf2_no _ _ r n (by omega) w2).mono ?_
        rintro e w' ⟨rfl, rfl⟩
        go_wp2_with fail
        refine (rpbkdf2_no _ _ r n (by omega) w2).mono ?_
        rintro e w' ⟨rfl, rfl⟩
        go_wp2_with fail
        refine (hmac_c (some ⟨g1, 0, none⟩) _ c1 K (some ⟨g2, 0, none⟩) _ c2 S w2 rfl (by rw [← HUL.out]; omega) HL1.out.app rfl (by rw [← HVL.out]; omega) HL2.out.app).mono ?_
        rintro e w5 ⟨rfl, hb5⟩
        replace HL1 := Lib.hid (HL1.out.below hb5)
        replace HL2 := Lib.hid (HL2.out.below hb5)
        replace HB1 := Lib.hid (HB1.out.trans (hb5.mono HB1.out.size))
        clear hb5
        go_wp2_with fail
        refine (rhmac_any A u c K B v d S w5 HUL.out (by rw [← HUL.out]; omega) (HRA.out.below HB1.out) HVL.out (by rw [← HVL.out]; omega) (HRB.out.below HB1.out)).mono ?_
        rintro e w6 ⟨rfl, hb6⟩
        have heq := hmac_eq K S
        obtain ⟨Cv, hCv⟩ : ∃ C, bytesV (hmac K S) = .agg C := ⟨_, rfl⟩
        rw [hCv] at heq ⊢
        clear hCv
        replace HL1 := Lib.hid (HL1.out.below hb6)
        replace HL2 := Lib.hid (HL2.out.below hb6)
        replace HB1 := Lib.hid (HB1.out.trans (hb6.mono HB1.out.size))
        clear hb6
        go_wp2_with fail
        refine (same_tt none none 0 0 0 0 [] w6 rfl rfl Rd.nil Rd.nil (by simp)).mono ?_
        rintro e w7 ⟨rfl, hb7⟩
        replace HL1 := Lib.hid (HL1.out.below hb7)
        replace HL2 := Lib.hid (HL2.out.below hb7)
        replace HB1 := Lib.hid (HB1.out.trans (hb7.mono HB1.out.size))
        clear hb7
        go_wp2_with fail
        refine (kept_n _ _ A u c K w7 HUL.out HL1.out (HRA.out.below HB1.out) (by rw [← HUL.out]; omega)).mono ?_
        rintro e w8 ⟨rfl, hb8⟩
        replace HL1 := Lib.hid (HL1.out.below hb8)
        replace HL2 := Lib.hid (HL2.out.below hb8)
        replace HB1 := Lib.hid (HB1.out.trans (hb8.mono HB1.out.size))
        clear hb8
        go_wp2_with fail
        refine (kept_n _ _ B v d S w8 HVL.out HL2.out (HRB.out.below HB1.out) (by rw [← HVL.out]; omega)).mono ?_
        rintro e w9 ⟨rfl, hb9⟩
        replace HL1 := Lib.hid (HL1.out.below hb9)
        replace HL2 := Lib.hid (HL2.out.below hb9)
        replace HB1 := Lib.hid (HB1.out.trans (hb9.mono HB1.out.size))
        clear hb9
        go_wp2_with fail
        refine (derAwake_any w9).mono ?_
        rintro e w10 ⟨rfl, hb10⟩
        replace HL1 := Lib.hid (HL1.out.below hb10)
        replace HL2 := Lib.hid (HL2.out.below hb10)
        replace HB1 := Lib.hid (HB1.out.trans (hb10.mono HB1.out.size))
        clear hb10
        go_wp2_with fail
        go_ret
        exact ⟨rfl, HBW.out.trans (HB1.out.mono HBW.out.size)⟩
theorem deriveTells_walk (A0 : Option Addr) (c0 : Nat) (l0 : List Nat) (A1 : Option Addr) (c1 : Nat) (l1 : List Nat) (a2 a3 : Int) (w : World) (hr0 : Rd w A0 l0) (hl0 : l0.length ≤ c0) (hm0 : c0 ≤ maxLen) (hr1 : Rd w A1 l1) (hl1 : l1.length ≤ c1) (hm1 : c1 ≤ maxLen) (w2 : (Lit.int .i64 a2).wf = true) (w3 : (Lit.int .i64 a3).wf = true) :
    Calls Try.prog 6 #[.slice A0 l0.length c0, .slice A1 l1.length c1, .int .i64 a2, .int .i64 a3] w fun e w' => e = .returned (.bool true) ∧ Below w.heap.size w w' := deriveTells_any A0 c0 l0 A1 c1 l1 a2 a3 w hr0 hl0 hr1 hl1
end Go.Proofs.Ytbnhjhdbjffnkab
