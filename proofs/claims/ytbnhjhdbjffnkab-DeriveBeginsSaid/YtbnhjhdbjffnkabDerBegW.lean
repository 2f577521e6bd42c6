/-
  THE WALK OF quillpresslaw04.DeriveBegins: it returns true. Conditions: the arguments read.
-/
import Derived.Test.YtbnhjhdbjffnkabDerBegL
import Derived.Test.YtbnhjhdbjffnkabDerZ
import Derived.Test.YtbnhjhdbjffnkabRow
import Derived.Deep.QuietTactic
namespace Go.Proofs.Ytbnhjhdbjffnkab
open Go.RowKit
set_option linter.unusedSimpArgs false
set_option linter.unusedVariables false

theorem hmac_eq' (k b : List Nat) (V : World) : (Op.equalIn 10000 30 (bytesV (hmac k b)) (bytesV (hmac k b))).run Try.prog V = .ok true V := shaC_eq _ V
set_option maxRecDepth 100000 in
set_option maxHeartbeats 8000000 in
theorem deriveBegins_any (A : Option Addr) (c : Nat) (key : List Nat) (B : Option Addr) (d : Nat) (b : List Nat) (r sh lo : Int) (z : Nat) (hz : z < 256) (w : World) (hA : Rd w A key) (hc : key.length ≤ c) (hB : Rd w B b) (hd : b.length ≤ d) :
    Calls Try.prog 7 #[.slice A key.length c, .slice B b.length d, .int .i64 r, .int .i64 sh, .int .i64 lo, .int .u8 z] w fun e w' => e = .returned (.bool true) ∧ Below w.heap.size w w' := by
  obtain ⟨u, hu⟩ : ∃ u, u = min key.length 200 := ⟨_, rfl⟩
  obtain ⟨v, hv⟩ : ∃ v, v = min b.length 200 := ⟨_, rfl⟩
  have k0 : (if (200 : Int) < key.length then (200 : Int) else key.length) = u := by split <;> omega
  have k1 : (if (200 : Int) < b.length then (200 : Int) else b.length) = v := by split <;> omega
  have m1 : (u : Int) ≤ c := by omega
  have m2 : u ≤ c := by omega
  have m3 : (v : Int) ≤ d := by omega
  have m4 : v ≤ d := by omega
  have u3 : u ≤ 200 := by omega
  have v6 : v ≤ 200 := by omega
  obtain ⟨K, hul, hAK⟩ : ∃ K : List Nat, u = K.length ∧ Rd w A K := ⟨key.take u, by rw [List.length_take]; omega, rd_take hA u⟩
  obtain ⟨S, hvl, hBS⟩ : ∃ S : List Nat, v = S.length ∧ Rd w B S := ⟨b.take v, by rw [List.length_take]; omega, rd_take hB v⟩
  have HUL := Lib.hid hul
  have HVL := Lib.hid hvl
  have HA := Lib.hid hAK
  have HB := Lib.hid hBS
  clear hu hv hul hvl hA hB hAK hBS
  go_enter Try.func7, Try.ntmps7
  go_upto_region 1 with fail
  go_quiet (fail)
  go_upto_region 2 with fail
  have hra := HA.out.below (below_drewN' (Below.refl w.heap.size w) nq)
  have hrb := HB.out.below (below_drewN' (Below.refl w.heap.size w) nq)
  have hbw := below_drewN' (Below.refl w.heap.size w) nq
  generalize w.drewN nq = W at *
  have HRA := Lib.hid hra
  have HRB := Lib.hid hrb
  have HBW := Lib.hid hbw
  clear hra hrb hbw HA HB
  go_wp2_with fail
  refine (pickn_any r 4 (by omega) (by omega) W).mono ?_
  rintro e w' ⟨rk, rfl, hrk, rfl⟩
  have q1 : IntKind.i64.wrap (1 + (rk : Int)) = ((1 + rk : Nat) : Int) := by simp [IntKind.wrap, IntKind.signed, IntKind.bits]; omega
  obtain ⟨rho, hrho⟩ : ∃ x, x = 1 + rk := ⟨_, rfl⟩
  rw [← hrho] at q1
  have r1 : 1 ≤ rho := by omega
  have r2 : rho ≤ 4 := by omega
  clear hrho
  go_wp2_with fail
  refine (pickn_any lo 201 (by omega) (by omega) W).mono ?_
  rintro e w' ⟨lg, rfl, hlg, rfl⟩
  have q2 : IntKind.i64.wrap ((lg : Int) + 1) = ((lg + 1 : Nat) : Int) := by simp [IntKind.wrap, IntKind.signed, IntKind.bits]; omega
  obtain ⟨lg1, hlg1⟩ : ∃ x, x = lg + 1 := ⟨_, rfl⟩
  rw [← hlg1] at q2
  have HLG := Lib.hid hlg1
  clear hlg1
  go_wp2_with fail
  refine (pickn_any sh lg1 (by rw [HLG.out]; omega) (by rw [HLG.out]; omega) W).mono ?_
  rintro e w' ⟨st, rfl, hst, rfl⟩
  have hst2 : st ≤ lg := by have := HLG.out; omega
  clear q1 q2 hst HLG hrk
  go_wp2_with fail
  refine (pbkdf2_any A u c K B v d S rho st W HUL.out (by rw [← HUL.out]; omega) HRA.out HVL.out (by rw [← HVL.out]; omega) HRB.out (by omega) (by omega) (by omega)).mono ?_
  rintro e w1 ⟨A3, c3, rfl, -, hr3, hb1⟩
  obtain ⟨L1, hL1⟩ : ∃ L, L = (pbAll K S (rho - 1) ((st + 31) / 32)).take st := ⟨_, rfl⟩
  rw [← hL1] at hr3
  have HR3 := Lib.hid hr3
  have HL1 := Lib.hid hL1
  have HB1 := Lib.hid hb1
  clear hr3 hL1 hb1
  go_wp2_with fail
  refine (pbkdf2_any A u c K B v d S rho lg w1 HUL.out (by rw [← HUL.out]; omega) (HRA.out.below HB1.out) HVL.out (by rw [← HVL.out]; omega) (HRB.out.below HB1.out) (by omega) (by omega) (by omega)).mono ?_
  rintro e w2 ⟨A4, c4, rfl, hc4, hr4, hb2⟩
  obtain ⟨L2, hL2⟩ : ∃ L, L = (pbAll K S (rho - 1) ((lg + 31) / 32)).take lg := ⟨_, rfl⟩
  rw [← hL2] at hr4
  have hbeg : L2.take st = L1 := by rw [hL2, HL1.out]; exact pb_begins K S (rho - 1) st lg hst2
  have hln2 : L2.length = lg := by rw [hL2, List.length_take, pbAll_length]; omega
  have hln1 : L1.length = st := by rw [← hbeg, List.length_take]; omega
  have hr41 : Rd w2 A4 L1 := by rw [← hbeg]; exact rd_take hr4 st
  have HR41 := Lib.hid hr41
  have HR31 := Lib.hid (HR3.out.below hb2)
  have HRL := Lib.hid hr4
  have HL2 := Lib.hid hL2
  have HLN1 := Lib.hid hln1
  have HLN2 := Lib.hid hln2
  have HB2 := Lib.hid (HB1.out.trans (hb2.mono HB1.out.size))
  have st1 : (st : Int) ≤ c4 := by omega
  have st2 : st ≤ c4 := by omega
  clear hr4 hL2 hb2 hbeg hln1 hln2 hr41 HR3 HB1 HL1
  go_wp2_with fail
  refine (same_tt A3 A4 st st c3 c4 L1 w2 HLN1.out.symm HLN1.out.symm HR31.out HR41.out (by rw [HLN1.out]; omega)).mono ?_
  rintro e w3 ⟨rfl, hb3⟩
  have HRL3 := Lib.hid (HRL.out.below hb3)
  have HB3 := Lib.hid (HB2.out.trans (hb3.mono HB2.out.size))
  clear hb3 HR31 HR41 HRL HB2 HLN1 st1 st2
  go_wp2_with fail
  refine (copyb_any A u c K w3 HUL.out (HRA.out.below HB3.out) (by rw [← HUL.out]; omega)).mono ?_
  rintro e w4 ⟨vk, rfl, hok, hb4⟩
  obtain ⟨A5, c5, rfl, -, -, hr5⟩ := hok.form
  rw [← HUL.out] at hok ⊢
  have HOK := Lib.hid hok
  have HR5 := Lib.hid hr5
  have HRL4 := Lib.hid (HRL3.out.below hb4)
  have HB4 := Lib.hid (HB3.out.trans (hb4.mono HB3.out.size))
  have hws : w3.heap.size ≤ w4.heap.size := hb4.size
  have HB34 := Lib.hid hb4
  clear hok hr5 hb4
  by_cases u64 : u ≤ 64
  · have u64' : (u : Int) ≤ 64 := by omega
    obtain ⟨m, hm⟩ : ∃ m, m = min z (64 - u) := ⟨_, rfl⟩
    have p1 : IntKind.i64.wrap (z : Int) = z := by simp [IntKind.wrap, IntKind.signed, IntKind.bits]; omega
    have p2 : IntKind.i64.wrap (64 - (u : Int)) = ((64 - u : Nat) : Int) := by simp [IntKind.wrap, IntKind.signed, IntKind.bits]; omega
    have p3 : (if ((64 - u : Nat) : Int) < z then ((64 - u : Nat) : Int) else (z : Int)) = (m : Int) := by split <;> omega
    have p4 : (if 64 - u < z then ((64 - u : Nat) : Int) else (z : Int)) = (m : Int) := by split <;> omega
    have hm2 : u + m ≤ 64 := by omega
    clear hm
    obtain ⟨v7, w7, hr7, ho7, hg7⟩ := run_append_zeros w4 w3.heap.size (.slice A5 u c5) K HOK.out m (by rw [← HUL.out]; omega) hws 25
    go_wp2_with (at_builtin; refine Lib.wpList_append_run w4 rfl (.tmp 87) (.tmp 93) 25 3 rfl (.slice A5 u c5) (.int .i64 (m : Nat)) rfl (by first | rfl | (simp [Act.eval]; omega)) v7 w7 hr7 ?_)
    have hb7 : Below w3.heap.size w3 w7 := HB34.out.grown hg7 HB34.out.size (fun x e => (HOK.out.lt x e).1)
    obtain ⟨A7, c7, rfl, -, -, hr7'⟩ := ho7.form
    have HKK : Hid (∀ b, hmac (K ++ List.replicate m 0) b = hmac K b) := Lib.hid (hmac_zeros K m (by rw [← HUL.out]; exact hm2))
    have HKL : Hid ((K ++ List.replicate m 0).length ≤ 64) := by rw [List.length_append, List.length_replicate, ← HUL.out]; exact hm2
    have HRK := Lib.hid hr7'
    have HRL2 := Lib.hid (HRL3.out.below hb7)
    have HBX := Lib.hid (HB3.out.trans (hb7.mono HB3.out.size))
    clear hb7 hr7' ho7 hg7 hr7 HRL4 HRL3 HB3 HB4 HB34 HOK HR5
    generalize K ++ List.replicate m 0 = K' at *
    obtain ⟨n7, hn7⟩ : ∃ n, n = K'.length := ⟨_, rfl⟩
    rw [← hn7]
    have HNK := Lib.hid hn7
    clear hn7
    refine (pbkdf2_any A7 n7 c7 K' B v d S rho lg w7 HNK.out (by have := HKL.out; omega) HRK.out HVL.out (by rw [← HVL.out]; omega) (HRB.out.below HBX.out) (by omega) (by omega) (by omega)).mono ?_
    rintro e x1 ⟨A8, c8, rfl, -, hr8, hx1⟩
    rw [pbAll_congr HKK.out, ← HL2.out] at hr8
    have HR8 := Lib.hid hr8
    have HR7 := Lib.hid (HRL2.out.below hx1)
    have HRK1 := Lib.hid (HRK.out.below hx1)
    have HBX1 := Lib.hid (HBX.out.trans (hx1.mono HBX.out.size))
    clear hr8 hx1 HRL2 HRK HBX
    go_wp2_with fail
    refine (same_tt A4 A8 lg lg c4 c8 L2 x1 HLN2.out.symm HLN2.out.symm HR7.out HR8.out (by rw [HLN2.out]; omega)).mono ?_
    rintro e x2 ⟨rfl, hx2⟩
    have HRK2 := Lib.hid (HRK1.out.below hx2)
    have HBX2 := Lib.hid (HBX1.out.trans (hx2.mono HBX1.out.size))
    clear hx2 HR7 HR8 HRK1 HBX1
    go_wp2_with fail
    refine (hmac_c A u c K B v d S x2 HUL.out (by rw [← HUL.out]; omega) (HRA.out.below HBX2.out) HVL.out (by rw [← HVL.out]; omega) (HRB.out.below HBX2.out)).mono ?_
    rintro e x3 ⟨rfl, hx3⟩
    have HRK3 := Lib.hid (HRK2.out.below hx3)
    have HBX3 := Lib.hid (HBX2.out.trans (hx3.mono HBX2.out.size))
    clear hx3 HRK2 HBX2
    go_wp2_with fail
    refine (hmac_c A7 n7 c7 K' B v d S x3 HNK.out (by have := HKL.out; omega) HRK3.out HVL.out (by rw [← HVL.out]; omega) (HRB.out.below HBX3.out)).mono ?_
    rintro e x4 ⟨rfl, hx4⟩
    rw [HKK.out]
    have heq := hmac_eq' K S
    obtain ⟨Cv, hCv⟩ : ∃ C, bytesV (hmac K S) = .agg C := ⟨_, rfl⟩
    rw [hCv] at heq ⊢
    have HBX4 := Lib.hid (HBX3.out.trans (hx4.mono HBX3.out.size))
    clear hCv hx4 HRK3 HBX3
    go_wp2_with fail
    refine (derAwake_any x4).mono ?_
    rintro e x5 ⟨rfl, hx5⟩
    have HBX5 := Lib.hid (HBW.out.trans ((HBX4.out.trans (hx5.mono HBX4.out.size)).mono HBW.out.size))
    clear hx5
    go_wp2_with fail
    go_ret
    exact ⟨rfl, HBX5.out⟩
  · have u64' : ¬ (u : Int) ≤ 64 := by omega
    go_wp2_with fail
    refine (of_c A5 u c5 K w4 HUL.out (by rw [← HUL.out]; omega) HR5.out).mono ?_
    rintro e w5 ⟨rfl, hb5⟩
    have HKK : Hid (∀ b, hmac (sha K) b = hmac K b) := Lib.hid (hmac_long K (by rw [← HUL.out]; omega))
    have HKL : Hid ((sha K).length ≤ 64) := by rw [sha_length]; exact (by omega : 32 ≤ 64)
    have HRL5 := Lib.hid (HRL4.out.below hb5)
    have HB5 := Lib.hid (HB4.out.trans (hb5.mono HB4.out.size))
    have hrk : ∀ V : World, Rd (V.alloc (.cells (shaC K) 30)) (some ⟨V.heap.size, 0, none⟩) (sha K) := fun V => constW_rd V _ (sha K) (sha_lt K) _
    have hci := shaC_at K
    have hcn := shaC_size K
    have hkl : (sha K).length = 32 := sha_length K
    generalize shaC K = CK at *
    generalize sha K = K' at *
    have HRKs := Lib.hid (hrk w5)
    have HCI := Lib.hid hci
    have HCN := Lib.hid hcn
    have HKL2 := Lib.hid hkl
    clear hb5 hrk hci hcn hkl HRL4 HB4 HR5 HOK HRL3 HB34
    go_wp2_with (refine wpList_store_new 30 (.tmp 18) (.tmp 96) rfl rfl _ CK rfl rfl (by rw [HCN.out]; exact size32) (by rw [HCN.out]; rfl) (bytes_oneCell HCN.out HCI.out) ?_)
    have hba := (Below.refl w5.heap.size w5).alloc (Nat.le_refl _) (.cells CK 30)
    refine (copyb_any (some ⟨w5.heap.size, 0, none⟩) 32 32 K' _ HKL2.out.symm HRKs.out (by rw [HKL2.out]; omega)).mono ?_
    rintro e w6 ⟨vk, rfl, hok, hb6⟩
    obtain ⟨A7, c7, rfl, -, -, hr7⟩ := hok.form
    have HRK := Lib.hid hr7
    have HRL2 := Lib.hid ((HRL5.out.below hba).below hb6)
    have HBX := Lib.hid ((HB5.out.trans (hba.mono HB5.out.size)).trans (hb6.mono (Nat.le_trans HB5.out.size hba.size)))
    clear hr7 hok hb6 hba HRL5 HB5 HCI HCN HRKs
    obtain ⟨n7, hn7⟩ : ∃ n, n = K'.length := ⟨_, rfl⟩
    rw [← hn7]
    have HNK := Lib.hid hn7
    clear hn7
    go_wp2_with fail
    refine (pbkdf2_any A7 n7 c7 K' B v d S rho lg w6 HNK.out (by have := HKL.out; omega) HRK.out HVL.out (by rw [← HVL.out]; omega) (HRB.out.below HBX.out) (by omega) (by omega) (by omega)).mono ?_
    rintro e x1 ⟨A8, c8, rfl, -, hr8, hx1⟩
    rw [pbAll_congr HKK.out, ← HL2.out] at hr8
    have HR8 := Lib.hid hr8
    have HR7 := Lib.hid (HRL2.out.below hx1)
    have HRK1 := Lib.hid (HRK.out.below hx1)
    have HBX1 := Lib.hid (HBX.out.trans (hx1.mono HBX.out.size))
    clear hr8 hx1 HRL2 HRK HBX
    go_wp2_with fail
    refine (same_tt A4 A8 lg lg c4 c8 L2 x1 HLN2.out.symm HLN2.out.symm HR7.out HR8.out (by rw [HLN2.out]; omega)).mono ?_
    rintro e x2 ⟨rfl, hx2⟩
    have HRK2 := Lib.hid (HRK1.out.below hx2)
    have HBX2 := Lib.hid (HBX1.out.trans (hx2.mono HBX1.out.size))
    clear hx2 HR7 HR8 HRK1 HBX1
    go_wp2_with fail
    refine (hmac_c A u c K B v d S x2 HUL.out (by rw [← HUL.out]; omega) (HRA.out.below HBX2.out) HVL.out (by rw [← HVL.out]; omega) (HRB.out.below HBX2.out)).mono ?_
    rintro e x3 ⟨rfl, hx3⟩
    have HRK3 := Lib.hid (HRK2.out.below hx3)
    have HBX3 := Lib.hid (HBX2.out.trans (hx3.mono HBX2.out.size))
    clear hx3 HRK2 HBX2
    go_wp2_with fail
    refine (hmac_c A7 n7 c7 K' B v d S x3 HNK.out (by have := HKL.out; omega) HRK3.out HVL.out (by rw [← HVL.out]; omega) (HRB.out.below HBX3.out)).mono ?_
    rintro e x4 ⟨rfl, hx4⟩
    rw [HKK.out]
    have heq := hmac_eq' K S
    obtain ⟨Cv, hCv⟩ : ∃ C, bytesV (hmac K S) = .agg C := ⟨_, rfl⟩
    rw [hCv] at heq ⊢
    have HBX4 := Lib.hid (HBX3.out.trans (hx4.mono HBX3.out.size))
    clear hCv hx4 HRK3 HBX3
    go_wp2_with fail
    refine (derAwake_any x4).mono ?_
    rintro e x5 ⟨rfl, hx5⟩
    have HBX5 := Lib.hid (HBW.out.trans ((HBX4.out.trans (hx5.mono HBX4.out.size)).mono HBW.out.size))
    clear hx5
    go_wp2_with fail
    go_ret
    exact ⟨rfl, HBX5.out⟩
theorem deriveBegins_walk (A0 : Option Addr) (c0 : Nat) (l0 : List Nat) (A1 : Option Addr) (c1 : Nat) (l1 : List Nat) (a2 a3 a4 a5 : Int) (w : World) (hr0 : Rd w A0 l0) (hl0 : l0.length ≤ c0) (hm0 : c0 ≤ maxLen) (hr1 : Rd w A1 l1) (hl1 : l1.length ≤ c1) (hm1 : c1 ≤ maxLen) (w2 : (Lit.int .i64 a2).wf = true) (w3 : (Lit.int .i64 a3).wf = true) (w4 : (Lit.int .i64 a4).wf = true) (w5 : (Lit.int .u8 a5).wf = true) :
    Calls Try.prog 7 #[.slice A0 l0.length c0, .slice A1 l1.length c1, .int .i64 a2, .int .i64 a3, .int .i64 a4, .int .u8 a5] w fun e w' => e = .returned (.bool true) ∧ Below w.heap.size w w' := by
  obtain ⟨z, hz, rfl⟩ := nat_of_u8 w5
  exact deriveBegins_any A0 c0 l0 A1 c1 l1 a2 a3 a4 z hz w hr0 hl0 hr1 hl1
end Go.Proofs.Ytbnhjhdbjffnkab
