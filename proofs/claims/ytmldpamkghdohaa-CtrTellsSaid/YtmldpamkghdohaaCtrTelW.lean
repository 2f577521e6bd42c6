/-
  THE WALK OF quillpresslaw06.CtrTells: it returns true. Conditions: the arguments read.
-/
import Derived.Test.YtmldpamkghdohaaCtrT
import Derived.Test.YtmldpamkghdohaaRow
import Derived.Deep.QuietTactic
namespace Go.Proofs.Ytmldpamkghdohaa
open Go.RowKit
set_option linter.unusedSimpArgs false
set_option linter.unusedVariables false

set_option maxRecDepth 100000 in
set_option maxHeartbeats 8000000 in
theorem ctrTells_any (cs : Array Value) (key : List Nat) (hcs : cs.size = 32) (hkl : key.length = 32) (hci : ∀ i, i < 32 → cs[i]? = some (.int .u8 (nth key i : Nat))) (hk8 : ∀ x ∈ key, x < 256)
    (A : Option Addr) (c : Nat) (nonce : List Nat) (at' n : Int) (B : Option Addr) (d : Nat) (b : List Nat) (w : World) (hA : Rd w A nonce) (hc : nonce.length ≤ c) (hB : Rd w B b) (hd : b.length ≤ d) :
    Calls Try.prog 4 #[.agg cs, .slice A nonce.length c, .int .i64 at', .int .i64 n, .slice B b.length d] w fun e w' => e = .returned (.bool true) ∧ Below w.heap.size w w' := by
  obtain ⟨u, hu⟩ : ∃ u, u = min nonce.length 20 := ⟨_, rfl⟩
  obtain ⟨v, hv⟩ : ∃ v, v = min b.length 400 := ⟨_, rfl⟩
  have k0 : (if (20 : Int) < nonce.length then (20 : Int) else nonce.length) = u := by split <;> omega
  have k1 : (if (400 : Int) < b.length then (400 : Int) else b.length) = v := by split <;> omega
  have m1 : (u : Int) ≤ c := by omega
  have m2 : u ≤ c := by omega
  have m3 : (v : Int) ≤ d := by omega
  have m4 : v ≤ d := by omega
  have u3 : u ≤ 20 := by omega
  have v6 : v ≤ 400 := by omega
  obtain ⟨K, hul, hAK⟩ : ∃ K : List Nat, u = K.length ∧ Rd w A K := ⟨nonce.take u, by rw [List.length_take]; omega, rd_takeL hA u⟩
  obtain ⟨S, hvl, hBS⟩ : ∃ S : List Nat, v = S.length ∧ Rd w B S := ⟨b.take v, by rw [List.length_take]; omega, rd_takeL hB v⟩
  subst hul
  subst hvl
  have HA := Lib.hid hAK
  have HB := Lib.hid hBS
  have HKL := Lib.hid hkl
  have HCI := Lib.hid hci
  have HK8 := Lib.hid hk8
  clear hu hv hA hB hAK hBS hcs hkl hci hk8
  by_cases h1 : 600 < n
  · by_cases h2 : n ≤ 4194304
    · obtain ⟨N, rfl⟩ : ∃ N : Nat, n = N := ⟨n.toNat, by omega⟩
      go_enter Try.func4, Try.ntmps4
      go_wp2_with fail
      have hb0 := (Below.refl w.heap.size w).alloc (Nat.le_refl _) (.cells cs 40)
      have hkr : Rd (w.alloc (.cells cs 40)) (some ⟨w.heap.size, 0, none⟩) key := by
        refine ⟨HK8.out, fun _ => ⟨_, 0, rfl, by simp, fun i hi => ?_⟩⟩
        rw [HKL.out] at hi
        rw [Nat.zero_add, cell_of_row _ _ _ _ _ _ (heap_alloc_new w _)]
        exact HCI.out i hi
      generalize w.alloc (.cells cs 40) = W at *
      have HB0 := Lib.hid hb0
      have HKR := Lib.hid hkr
      clear hb0 hkr
      go_quiet (fail)
      have hbw := below_drewN' HB0.out nq
      have hkr := HKR.out.drewN nq
      generalize W.drewN nq = V at *
      have HBW := Lib.hid hbw
      have HK := Lib.hid hkr
      have HRA := Lib.hid (HA.out.below hbw)
      have HRB := Lib.hid (HB.out.below hbw)
      clear hbw hkr HB0 HKR HA HB
      go_wp2_with fail
      refine (new_any (some ⟨w.heap.size, 0, none⟩) 32 key V HKL.out HK.out).mono ?_
      rintro e w1 ⟨rfl, hc1, hb1⟩
      have hkb : ∀ i, i < 240 → nth (ks key) i < 256 := fun i _ => nth_lt (ks_lt HK.out.1) i
      have HKB := Lib.hid hkb
      have HC := Lib.hid hc1
      replace HK := Lib.hid (HK.out.below hb1)
      replace HRA := Lib.hid (HRA.out.below hb1)
      replace HRB := Lib.hid (HRB.out.below hb1)
      replace HBW := Lib.hid (HBW.out.trans (hb1.mono HBW.out.size))
      clear hc1 hb1 hkb
      generalize V.heap.size = gc at *
      go_wp2_with fail
      refine (lentb_n A K.length c K w1 rfl HRA.out (by omega)).mono ?_
      rintro e w2 ⟨g1, c1, rfl, hl1, hb2⟩
      try replace HC := Lib.hid (HC.out.below hb2 HC.out.lt)
      try replace HK := Lib.hid (HK.out.below hb2)
      try replace HRA := Lib.hid (HRA.out.below hb2)
      try replace HRB := Lib.hid (HRB.out.below hb2)
      try replace HL1 := Lib.hid (HL1.out.below hb2)
      try replace HL2 := Lib.hid (HL2.out.below hb2)
      try replace HR1 := Lib.hid (HR1.out.below hb2)
      try replace HR2 := Lib.hid (HR2.out.below hb2)
      try replace HR3 := Lib.hid (HR3.out.below hb2)
      try replace HR4 := Lib.hid (HR4.out.below hb2)
      replace HBW := Lib.hid (HBW.out.trans (hb2.mono HBW.out.size))
      clear hb2
      have HL1 := Lib.hid hl1
      clear hl1
      go_wp2_with fail
      refine (lentb_n B S.length d S w2 rfl HRB.out (by omega)).mono ?_
      rintro e w3 ⟨g2, c2, rfl, hl2, hb3⟩
      try replace HC := Lib.hid (HC.out.below hb3 HC.out.lt)
      try replace HK := Lib.hid (HK.out.below hb3)
      try replace HRA := Lib.hid (HRA.out.below hb3)
      try replace HRB := Lib.hid (HRB.out.below hb3)
      try replace HL1 := Lib.hid (HL1.out.below hb3)
      try replace HL2 := Lib.hid (HL2.out.below hb3)
      try replace HR1 := Lib.hid (HR1.out.below hb3)
      try replace HR2 := Lib.hid (HR2.out.below hb3)
      try replace HR3 := Lib.hid (HR3.out.below hb3)
      try replace HR4 := Lib.hid (HR4.out.below hb3)
      replace HBW := Lib.hid (HBW.out.trans (hb3.mono HBW.out.size))
      clear hb3
      have HL2 := Lib.hid hl2
      clear hl2
      go_wp2_with fail
      refine (stream_all gc _ _ c1 (nth (ks key)) K at' ((N : Int) % 600) w3 rfl HC.out HKB.out HL1.out.app).mono ?_
      rintro e w4 ⟨A1, d1, rfl, ho4, hb4⟩
      try replace HC := Lib.hid (HC.out.below hb4 HC.out.lt)
      try replace HK := Lib.hid (HK.out.below hb4)
      try replace HRA := Lib.hid (HRA.out.below hb4)
      try replace HRB := Lib.hid (HRB.out.below hb4)
      try replace HL1 := Lib.hid (HL1.out.below hb4)
      try replace HL2 := Lib.hid (HL2.out.below hb4)
      try replace HR1 := Lib.hid (HR1.out.below hb4)
      try replace HR2 := Lib.hid (HR2.out.below hb4)
      try replace HR3 := Lib.hid (HR3.out.below hb4)
      try replace HR4 := Lib.hid (HR4.out.below hb4)
      replace HBW := Lib.hid (HBW.out.trans (hb4.mono HBW.out.size))
      clear hb4
      obtain ⟨_, _, e1, -, -, hr4⟩ := ho4.form
      injection e1 with e1 _ _
      subst e1
      have HR1 := Lib.hid hr4
      clear ho4 hr4
      go_wp2_with fail
      refine (rstream_all (some ⟨w.heap.size, 0, none⟩) 32 A K.length c key K at' ((N : Int) % 600) w4 rfl HKL.out (by omega) HK.out HRA.out).mono ?_
      rintro e w5 ⟨A2, d2, rfl, ho5, hb5⟩
      try replace HC := Lib.hid (HC.out.below hb5 HC.out.lt)
      try replace HK := Lib.hid (HK.out.below hb5)
      try replace HRA := Lib.hid (HRA.out.below hb5)
      try replace HRB := Lib.hid (HRB.out.below hb5)
      try replace HL1 := Lib.hid (HL1.out.below hb5)
      try replace HL2 := Lib.hid (HL2.out.below hb5)
      try replace HR1 := Lib.hid (HR1.out.below hb5)
      try replace HR2 := Lib.hid (HR2.out.below hb5)
      try replace HR3 := Lib.hid (HR3.out.below hb5)
      try replace HR4 := Lib.hid (HR4.out.below hb5)
      replace HBW := Lib.hid (HBW.out.trans (hb5.mono HBW.out.size))
      clear hb5
      obtain ⟨_, _, e1, -, -, hr5⟩ := ho5.form
      injection e1 with e1 _ _
      subst e1
      have HR2 := Lib.hid hr5
      clear ho5 hr5
      go_wp2_with fail
      refine (turn_all gc _ _ c1 (nth (ks key)) K at' _ _ c2 S w5 rfl rfl HC.out HKB.out HL1.out.app HL2.out.app).mono ?_
      rintro e w6 ⟨A3, d3, rfl, ho6, hb6⟩
      try replace HC := Lib.hid (HC.out.below hb6 HC.out.lt)
      try replace HK := Lib.hid (HK.out.below hb6)
      try replace HRA := Lib.hid (HRA.out.below hb6)
      try replace HRB := Lib.hid (HRB.out.below hb6)
      try replace HL1 := Lib.hid (HL1.out.below hb6)
      try replace HL2 := Lib.hid (HL2.out.below hb6)
      try replace HR1 := Lib.hid (HR1.out.below hb6)
      try replace HR2 := Lib.hid (HR2.out.below hb6)
      try replace HR3 := Lib.hid (HR3.out.below hb6)
      try replace HR4 := Lib.hid (HR4.out.below hb6)
      replace HBW := Lib.hid (HBW.out.trans (hb6.mono HBW.out.size))
      clear hb6
      obtain ⟨_, _, e1, -, -, hr6⟩ := ho6.form
      injection e1 with e1 _ _
      subst e1
      have HR3 := Lib.hid hr6
      clear ho6 hr6
      go_wp2_with fail
      refine (rstream_all (some ⟨w.heap.size, 0, none⟩) 32 A K.length c key K at' S.length w6 rfl HKL.out (by omega) HK.out HRA.out).mono ?_
      rintro e w7 ⟨A4, d4, rfl, ho7, hb7⟩
      try replace HC := Lib.hid (HC.out.below hb7 HC.out.lt)
      try replace HK := Lib.hid (HK.out.below hb7)
      try replace HRA := Lib.hid (HRA.out.below hb7)
      try replace HRB := Lib.hid (HRB.out.below hb7)
      try replace HL1 := Lib.hid (HL1.out.below hb7)
      try replace HL2 := Lib.hid (HL2.out.below hb7)
      try replace HR1 := Lib.hid (HR1.out.below hb7)
      try replace HR2 := Lib.hid (HR2.out.below hb7)
      try replace HR3 := Lib.hid (HR3.out.below hb7)
      try replace HR4 := Lib.hid (HR4.out.below hb7)
      replace HBW := Lib.hid (HBW.out.trans (hb7.mono HBW.out.size))
      clear hb7
      obtain ⟨_, _, e1, -, -, hr7⟩ := ho7.form
      injection e1 with e1 _ _
      subst e1
      have HR4 := Lib.hid hr7
      clear ho7 hr7
      have hx1 := ctrT_length (nth (ks key)) K at' S
      have hx2 := fun j => @ctrT_nth (nth (ks key)) K at' S j
      have hx3 := @ctrL_le (nth (ks key)) K at' S.length
      have hx4 := @ctrL_le (nth (ks key)) K at' ((N : Int) % 600)
      rw [hx1]
      generalize ctrT (nth (ks key)) K at' S = U at *
      generalize ctrL (nth (ks key)) K at' S.length = L at *
      generalize ctrL (nth (ks key)) K at' ((N : Int) % 600) = M at *
      generalize ctrE K.length at' S.length = E1 at *
      generalize ctrE K.length at' ((N : Int) % 600) = E2 at *
      have HX1 := Lib.hid hx1
      have HX2 := Lib.hid hx2
      clear hx1 hx2
      go_wp2_with fail
      refine (same_yes _ _ M.length M.length _ _ M w7 rfl rfl HR1.out HR2.out (by omega)).mono ?_
      rintro e w8 ⟨rfl, hb8⟩
      try replace HC := Lib.hid (HC.out.below hb8 HC.out.lt)
      try replace HK := Lib.hid (HK.out.below hb8)
      try replace HRA := Lib.hid (HRA.out.below hb8)
      try replace HRB := Lib.hid (HRB.out.below hb8)
      try replace HL1 := Lib.hid (HL1.out.below hb8)
      try replace HL2 := Lib.hid (HL2.out.below hb8)
      try replace HR1 := Lib.hid (HR1.out.below hb8)
      try replace HR2 := Lib.hid (HR2.out.below hb8)
      try replace HR3 := Lib.hid (HR3.out.below hb8)
      try replace HR4 := Lib.hid (HR4.out.below hb8)
      replace HBW := Lib.hid (HBW.out.trans (hb8.mono HBW.out.size))
      clear hb8
      go_wp2_with fail
      go_loopw [23] (fun i wr => ∃ j : Nat, j ≤ L.length ∧ i = .int .i64 j ∧ Below w8.heap.size w8 wr) (fun i _ => L.length - (intOf i).toNat)
      case atStart => exact ⟨0, by omega, rfl, Below.refl _ _⟩
      case round =>
        obtain ⟨j, hj, rfl, hbr⟩ := hrel
        have HBR := Lib.hid hbr
        try replace HC := Lib.hid (HC.out.below hbr HC.out.lt)
        try replace HK := Lib.hid (HK.out.below hbr)
        try replace HRA := Lib.hid (HRA.out.below hbr)
        try replace HRB := Lib.hid (HRB.out.below hbr)
        try replace HL1 := Lib.hid (HL1.out.below hbr)
        try replace HL2 := Lib.hid (HL2.out.below hbr)
        try replace HR1 := Lib.hid (HR1.out.below hbr)
        try replace HR2 := Lib.hid (HR2.out.below hbr)
        try replace HR3 := Lib.hid (HR3.out.below hbr)
        try replace HR4 := Lib.hid (HR4.out.below hbr)
        replace HBW := Lib.hid (HBW.out.trans (hbr.mono HBW.out.size))
        clear hbr
        by_cases e0 : j < L.length
        · obtain ⟨hx5, hx6⟩ := HX2.out j (by rw [HX1.out]; exact e0)
          obtain ⟨g3, o3, rfl, -, h3⟩ := HR3.out.2 (by intro e; have := HX1.out; rw [e] at this; simp at this; omega)
          obtain ⟨g4, o4, rfl, -, h4⟩ := HR4.out.2 (by intro e; rw [e] at e0; simp at e0)
          obtain ⟨g5, o5, rfl, -, h5⟩ := HRB.out.2 (by intro e; rw [e] at hx6; simp at hx6)
          have y3 := h3 j (by rw [HX1.out]; exact e0)
          have y4 := h4 j e0
          have y5 := h5 j hx6
          rw [hx5] at y3
          have y6 : bits BinOp.xor IntKind.u8 (nth L j : Int) (nth S j : Int) = ((nth L j ^^^ nth S j : Nat) : Int) := u8_xor_nat _ _ (nth_lt HR4.out.1 j) (nth_lt HRB.out.1 j)
          have y7 : ((nth L j ^^^ nth S j : Nat) : Int) < 256 := by
            have := Nat.xor_lt_two_pow (n := 8) (nth_lt HR4.out.1 j) (nth_lt HRB.out.1 j)
            omega
          generalize nth L j ^^^ nth S j = X at *
          generalize nth L j = Y at *
          generalize nth S j = Z at *
          clear hx5 h3 h4 h5
          go_wp2_with fail
          go_quiet (fail)
          go_wp2_with fail
          refine ⟨⟨j + 1, by omega, by go_num, below_drewN' HBR.out nq⟩, ?_⟩
          simp [intOf]
          omega
        · obtain rfl : j = L.length := by omega
          go_wp2_with fail
          refine (kept_n _ _ A K.length c K wr rfl HL1.out HRA.out (by omega)).mono ?_
          rintro e w9 ⟨rfl, hb9⟩
          try replace HC := Lib.hid (HC.out.below hb9 HC.out.lt)
          try replace HK := Lib.hid (HK.out.below hb9)
          try replace HRA := Lib.hid (HRA.out.below hb9)
          try replace HRB := Lib.hid (HRB.out.below hb9)
          try replace HL1 := Lib.hid (HL1.out.below hb9)
          try replace HL2 := Lib.hid (HL2.out.below hb9)
          try replace HR1 := Lib.hid (HR1.out.below hb9)
          try replace HR2 := Lib.hid (HR2.out.below hb9)
          try replace HR3 := Lib.hid (HR3.out.below hb9)
          try replace HR4 := Lib.hid (HR4.out.below hb9)
          replace HBW := Lib.hid (HBW.out.trans (hb9.mono HBW.out.size))
          clear hb9
          go_wp2_with fail
          refine (kept_n _ _ B S.length d S w9 rfl HL2.out HRB.out (by omega)).mono ?_
          rintro e w10 ⟨rfl, hb10⟩
          try replace HC := Lib.hid (HC.out.below hb10 HC.out.lt)
          try replace HK := Lib.hid (HK.out.below hb10)
          try replace HRA := Lib.hid (HRA.out.below hb10)
          try replace HRB := Lib.hid (HRB.out.below hb10)
          try replace HL1 := Lib.hid (HL1.out.below hb10)
          try replace HL2 := Lib.hid (HL2.out.below hb10)
          try replace HR1 := Lib.hid (HR1.out.below hb10)
          try replace HR2 := Lib.hid (HR2.out.below hb10)
          try replace HR3 := Lib.hid (HR3.out.below hb10)
          try replace HR4 := Lib.hid (HR4.out.below hb10)
          replace HBW := Lib.hid (HBW.out.trans (hb10.mono HBW.out.size))
          clear hb10
          go_wp2_with fail
          refine (awake_any w10).mono ?_
          rintro e w11 ⟨rfl, hb11⟩
          try replace HC := Lib.hid (HC.out.below hb11 HC.out.lt)
          try replace HK := Lib.hid (HK.out.below hb11)
          try replace HRA := Lib.hid (HRA.out.below hb11)
          try replace HRB := Lib.hid (HRB.out.below hb11)
          try replace HL1 := Lib.hid (HL1.out.below hb11)
          try replace HL2 := Lib.hid (HL2.out.below hb11)
          try replace HR1 := Lib.hid (HR1.out.below hb11)
          try replace HR2 := Lib.hid (HR2.out.below hb11)
          try replace HR3 := Lib.hid (HR3.out.below hb11)
          try replace HR4 := Lib.hid (HR4.out.below hb11)
          replace HBW := Lib.hid (HBW.out.trans (hb11.mono HBW.out.size))
          clear hb11
          go_wp2_with fail
          go_ret
          exact ⟨rfl, HBW.out⟩
    · go_enter Try.func4, Try.ntmps4
      go_wp2_with fail
      have hb0 := (Below.refl w.heap.size w).alloc (Nat.le_refl _) (.cells cs 40)
      have hkr : Rd (w.alloc (.cells cs 40)) (some ⟨w.heap.size, 0, none⟩) key := by
        refine ⟨HK8.out, fun _ => ⟨_, 0, rfl, by simp, fun i hi => ?_⟩⟩
        rw [HKL.out] at hi
        rw [Nat.zero_add, cell_of_row _ _ _ _ _ _ (heap_alloc_new w _)]
        exact HCI.out i hi
      generalize w.alloc (.cells cs 40) = W at *
      have HB0 := Lib.hid hb0
      have HKR := Lib.hid hkr
      clear hb0 hkr
      go_quiet (fail)
      have hbw := below_drewN' HB0.out nq
      have hkr := HKR.out.drewN nq
      generalize W.drewN nq = V at *
      have HBW := Lib.hid hbw
      have HK := Lib.hid hkr
      have HRA := Lib.hid (HA.out.below hbw)
      have HRB := Lib.hid (HB.out.below hbw)
      clear hbw hkr HB0 HKR HA HB
      go_wp2_with fail
      refine (new_any (some ⟨w.heap.size, 0, none⟩) 32 key V HKL.out HK.out).mono ?_
      rintro e w1 ⟨rfl, hc1, hb1⟩
      have hkb : ∀ i, i < 240 → nth (ks key) i < 256 := fun i _ => nth_lt (ks_lt HK.out.1) i
      have HKB := Lib.hid hkb
      have HC := Lib.hid hc1
      replace HK := Lib.hid (HK.out.below hb1)
      replace HRA := Lib.hid (HRA.out.below hb1)
      replace HRB := Lib.hid (HRB.out.below hb1)
      replace HBW := Lib.hid (HBW.out.trans (hb1.mono HBW.out.size))
      clear hc1 hb1 hkb
      generalize V.heap.size = gc at *
      go_wp2_with fail
      refine (lentb_n A K.length c K w1 rfl HRA.out (by omega)).mono ?_
      rintro e w2 ⟨g1, c1, rfl, hl1, hb2⟩
      try replace HC := Lib.hid (HC.out.below hb2 HC.out.lt)
      try replace HK := Lib.hid (HK.out.below hb2)
      try replace HRA := Lib.hid (HRA.out.below hb2)
      try replace HRB := Lib.hid (HRB.out.below hb2)
      try replace HL1 := Lib.hid (HL1.out.below hb2)
      try replace HL2 := Lib.hid (HL2.out.below hb2)
      try replace HR1 := Lib.hid (HR1.out.below hb2)
      try replace HR2 := Lib.hid (HR2.out.below hb2)
      try replace HR3 := Lib.hid (HR3.out.below hb2)
      try replace HR4 := Lib.hid (HR4.out.below hb2)
      replace HBW := Lib.hid (HBW.out.trans (hb2.mono HBW.out.size))
      clear hb2
      have HL1 := Lib.hid hl1
      clear hl1
      go_wp2_with fail
      refine (lentb_n B S.length d S w2 rfl HRB.out (by omega)).mono ?_
      rintro e w3 ⟨g2, c2, rfl, hl2, hb3⟩
      try replace HC := Lib.hid (HC.out.below hb3 HC.out.lt)
      try replace HK := Lib.hid (HK.out.below hb3)
      try replace HRA := Lib.hid (HRA.out.below hb3)
      try replace HRB := Lib.hid (HRB.out.below hb3)
      try replace HL1 := Lib.hid (HL1.out.below hb3)
      try replace HL2 := Lib.hid (HL2.out.below hb3)
      try replace HR1 := Lib.hid (HR1.out.below hb3)
      try replace HR2 := Lib.hid (HR2.out.below hb3)
      try replace HR3 := Lib.hid (HR3.out.below hb3)
      try replace HR4 := Lib.hid (HR4.out.below hb3)
      replace HBW := Lib.hid (HBW.out.trans (hb3.mono HBW.out.size))
      clear hb3
      have HL2 := Lib.hid hl2
      clear hl2
      go_wp2_with fail
      refine (stream_all gc _ _ c1 (nth (ks key)) K at' n w3 rfl HC.out HKB.out HL1.out.app).mono ?_
      rintro e w4 ⟨A1, d1, rfl, ho4, hb4⟩
      try replace HC := Lib.hid (HC.out.below hb4 HC.out.lt)
      try replace HK := Lib.hid (HK.out.below hb4)
      try replace HRA := Lib.hid (HRA.out.below hb4)
      try replace HRB := Lib.hid (HRB.out.below hb4)
      try replace HL1 := Lib.hid (HL1.out.below hb4)
      try replace HL2 := Lib.hid (HL2.out.below hb4)
      try replace HR1 := Lib.hid (HR1.out.below hb4)
      try replace HR2 := Lib.hid (HR2.out.below hb4)
      try replace HR3 := Lib.hid (HR3.out.below hb4)
      try replace HR4 := Lib.hid (HR4.out.below hb4)
      replace HBW := Lib.hid (HBW.out.trans (hb4.mono HBW.out.size))
      clear hb4
      obtain ⟨_, _, e1, -, -, hr4⟩ := ho4.form
      injection e1 with e1 _ _
      subst e1
      have HR1 := Lib.hid hr4
      clear ho4 hr4
      go_wp2_with fail
      refine (rstream_all (some ⟨w.heap.size, 0, none⟩) 32 A K.length c key K at' n w4 rfl HKL.out (by omega) HK.out HRA.out).mono ?_
      rintro e w5 ⟨A2, d2, rfl, ho5, hb5⟩
      try replace HC := Lib.hid (HC.out.below hb5 HC.out.lt)
      try replace HK := Lib.hid (HK.out.below hb5)
      try replace HRA := Lib.hid (HRA.out.below hb5)
      try replace HRB := Lib.hid (HRB.out.below hb5)
      try replace HL1 := Lib.hid (HL1.out.below hb5)
      try replace HL2 := Lib.hid (HL2.out.below hb5)
      try replace HR1 := Lib.hid (HR1.out.below hb5)
      try replace HR2 := Lib.hid (HR2.out.below hb5)
      try replace HR3 := Lib.hid (HR3.out.below hb5)
      try replace HR4 := Lib.hid (HR4.out.below hb5)
      replace HBW := Lib.hid (HBW.out.trans (hb5.mono HBW.out.size))
      clear hb5
      obtain ⟨_, _, e1, -, -, hr5⟩ := ho5.form
      injection e1 with e1 _ _
      subst e1
      have HR2 := Lib.hid hr5
      clear ho5 hr5
      go_wp2_with fail
      refine (turn_all gc _ _ c1 (nth (ks key)) K at' _ _ c2 S w5 rfl rfl HC.out HKB.out HL1.out.app HL2.out.app).mono ?_
      rintro e w6 ⟨A3, d3, rfl, ho6, hb6⟩
      try replace HC := Lib.hid (HC.out.below hb6 HC.out.lt)
      try replace HK := Lib.hid (HK.out.below hb6)
      try replace HRA := Lib.hid (HRA.out.below hb6)
      try replace HRB := Lib.hid (HRB.out.below hb6)
      try replace HL1 := Lib.hid (HL1.out.below hb6)
      try replace HL2 := Lib.hid (HL2.out.below hb6)
      try replace HR1 := Lib.hid (HR1.out.below hb6)
      try replace HR2 := Lib.hid (HR2.out.below hb6)
      try replace HR3 := Lib.hid (HR3.out.below hb6)
      try replace HR4 := Lib.hid (HR4.out.below hb6)
      replace HBW := Lib.hid (HBW.out.trans (hb6.mono HBW.out.size))
      clear hb6
      obtain ⟨_, _, e1, -, -, hr6⟩ := ho6.form
      injection e1 with e1 _ _
      subst e1
      have HR3 := Lib.hid hr6
      clear ho6 hr6
      go_wp2_with fail
      refine (rstream_all (some ⟨w.heap.size, 0, none⟩) 32 A K.length c key K at' S.length w6 rfl HKL.out (by omega) HK.out HRA.out).mono ?_
      rintro e w7 ⟨A4, d4, rfl, ho7, hb7⟩
      try replace HC := Lib.hid (HC.out.below hb7 HC.out.lt)
      try replace HK := Lib.hid (HK.out.below hb7)
      try replace HRA := Lib.hid (HRA.out.below hb7)
      try replace HRB := Lib.hid (HRB.out.below hb7)
      try replace HL1 := Lib.hid (HL1.out.below hb7)
      try replace HL2 := Lib.hid (HL2.out.below hb7)
      try replace HR1 := Lib.hid (HR1.out.below hb7)
      try replace HR2 := Lib.hid (HR2.out.below hb7)
      try replace HR3 := Lib.hid (HR3.out.below hb7)
      try replace HR4 := Lib.hid (HR4.out.below hb7)
      replace HBW := Lib.hid (HBW.out.trans (hb7.mono HBW.out.size))
      clear hb7
      obtain ⟨_, _, e1, -, -, hr7⟩ := ho7.form
      injection e1 with e1 _ _
      subst e1
      have HR4 := Lib.hid hr7
      clear ho7 hr7
      have hx1 := ctrT_length (nth (ks key)) K at' S
      have hx2 := fun j => @ctrT_nth (nth (ks key)) K at' S j
      have hx3 := @ctrL_le (nth (ks key)) K at' S.length
      have hx4 := @ctrL_le (nth (ks key)) K at' n
      rw [hx1]
      generalize ctrT (nth (ks key)) K at' S = U at *
      generalize ctrL (nth (ks key)) K at' S.length = L at *
      generalize ctrL (nth (ks key)) K at' n = M at *
      generalize ctrE K.length at' S.length = E1 at *
      generalize ctrE K.length at' n = E2 at *
      have HX1 := Lib.hid hx1
      have HX2 := Lib.hid hx2
      clear hx1 hx2
      go_wp2_with fail
      refine (same_yes _ _ M.length M.length _ _ M w7 rfl rfl HR1.out HR2.out (by omega)).mono ?_
      rintro e w8 ⟨rfl, hb8⟩
      try replace HC := Lib.hid (HC.out.below hb8 HC.out.lt)
      try replace HK := Lib.hid (HK.out.below hb8)
      try replace HRA := Lib.hid (HRA.out.below hb8)
      try replace HRB := Lib.hid (HRB.out.below hb8)
      try replace HL1 := Lib.hid (HL1.out.below hb8)
      try replace HL2 := Lib.hid (HL2.out.below hb8)
      try replace HR1 := Lib.hid (HR1.out.below hb8)
      try replace HR2 := Lib.hid (HR2.out.below hb8)
      try replace HR3 := Lib.hid (HR3.out.below hb8)
      try replace HR4 := Lib.hid (HR4.out.below hb8)
      replace HBW := Lib.hid (HBW.out.trans (hb8.mono HBW.out.size))
      clear hb8
      go_wp2_with fail
      go_loopw [23] (fun i wr => ∃ j : Nat, j ≤ L.length ∧ i = .int .i64 j ∧ Below w8.heap.size w8 wr) (fun i _ => L.length - (intOf i).toNat)
      case atStart => exact ⟨0, by omega, rfl, Below.refl _ _⟩
      case round =>
        obtain ⟨j, hj, rfl, hbr⟩ := hrel
        have HBR := Lib.hid hbr
        try replace HC := Lib.hid (HC.out.below hbr HC.out.lt)
        try replace HK := Lib.hid (HK.out.below hbr)
        try replace HRA := Lib.hid (HRA.out.below hbr)
        try replace HRB := Lib.hid (HRB.out.below hbr)
        try replace HL1 := Lib.hid (HL1.out.below hbr)
        try replace HL2 := Lib.hid (HL2.out.below hbr)
        try replace HR1 := Lib.hid (HR1.out.below hbr)
        try replace HR2 := Lib.hid (HR2.out.below hbr)
        try replace HR3 := Lib.hid (HR3.out.below hbr)
        try replace HR4 := Lib.hid (HR4.out.below hbr)
        replace HBW := Lib.hid (HBW.out.trans (hbr.mono HBW.out.size))
        clear hbr
        by_cases e0 : j < L.length
        · obtain ⟨hx5, hx6⟩ := HX2.out j (by rw [HX1.out]; exact e0)
          obtain ⟨g3, o3, rfl, -, h3⟩ := HR3.out.2 (by intro e; have := HX1.out; rw [e] at this; simp at this; omega)
          obtain ⟨g4, o4, rfl, -, h4⟩ := HR4.out.2 (by intro e; rw [e] at e0; simp at e0)
          obtain ⟨g5, o5, rfl, -, h5⟩ := HRB.out.2 (by intro e; rw [e] at hx6; simp at hx6)
          have y3 := h3 j (by rw [HX1.out]; exact e0)
          have y4 := h4 j e0
          have y5 := h5 j hx6
          rw [hx5] at y3
          have y6 : bits BinOp.xor IntKind.u8 (nth L j : Int) (nth S j : Int) = ((nth L j ^^^ nth S j : Nat) : Int) := u8_xor_nat _ _ (nth_lt HR4.out.1 j) (nth_lt HRB.out.1 j)
          have y7 : ((nth L j ^^^ nth S j : Nat) : Int) < 256 := by
            have := Nat.xor_lt_two_pow (n := 8) (nth_lt HR4.out.1 j) (nth_lt HRB.out.1 j)
            omega
          generalize nth L j ^^^ nth S j = X at *
          generalize nth L j = Y at *
          generalize nth S j = Z at *
          clear hx5 h3 h4 h5
          go_wp2_with fail
          go_quiet (fail)
          go_wp2_with fail
          refine ⟨⟨j + 1, by omega, by go_num, below_drewN' HBR.out nq⟩, ?_⟩
          simp [intOf]
          omega
        · obtain rfl : j = L.length := by omega
          go_wp2_with fail
          refine (kept_n _ _ A K.length c K wr rfl HL1.out HRA.out (by omega)).mono ?_
          rintro e w9 ⟨rfl, hb9⟩
          try replace HC := Lib.hid (HC.out.below hb9 HC.out.lt)
          try replace HK := Lib.hid (HK.out.below hb9)
          try replace HRA := Lib.hid (HRA.out.below hb9)
          try replace HRB := Lib.hid (HRB.out.below hb9)
          try replace HL1 := Lib.hid (HL1.out.below hb9)
          try replace HL2 := Lib.hid (HL2.out.below hb9)
          try replace HR1 := Lib.hid (HR1.out.below hb9)
          try replace HR2 := Lib.hid (HR2.out.below hb9)
          try replace HR3 := Lib.hid (HR3.out.below hb9)
          try replace HR4 := Lib.hid (HR4.out.below hb9)
          replace HBW := Lib.hid (HBW.out.trans (hb9.mono HBW.out.size))
          clear hb9
          go_wp2_with fail
          refine (kept_n _ _ B S.length d S w9 rfl HL2.out HRB.out (by omega)).mono ?_
          rintro e w10 ⟨rfl, hb10⟩
          try replace HC := Lib.hid (HC.out.below hb10 HC.out.lt)
          try replace HK := Lib.hid (HK.out.below hb10)
          try replace HRA := Lib.hid (HRA.out.below hb10)
          try replace HRB := Lib.hid (HRB.out.below hb10)
          try replace HL1 := Lib.hid (HL1.out.below hb10)
          try replace HL2 := Lib.hid (HL2.out.below hb10)
          try replace HR1 := Lib.hid (HR1.out.below hb10)
          try replace HR2 := Lib.hid (HR2.out.below hb10)
          try replace HR3 := Lib.hid (HR3.out.below hb10)
          try replace HR4 := Lib.hid (HR4.out.below hb10)
          replace HBW := Lib.hid (HBW.out.trans (hb10.mono HBW.out.size))
          clear hb10
          go_wp2_with fail
          refine (awake_any w10).mono ?_
          rintro e w11 ⟨rfl, hb11⟩
          try replace HC := Lib.hid (HC.out.below hb11 HC.out.lt)
          try replace HK := Lib.hid (HK.out.below hb11)
          try replace HRA := Lib.hid (HRA.out.below hb11)
          try replace HRB := Lib.hid (HRB.out.below hb11)
          try replace HL1 := Lib.hid (HL1.out.below hb11)
          try replace HL2 := Lib.hid (HL2.out.below hb11)
          try replace HR1 := Lib.hid (HR1.out.below hb11)
          try replace HR2 := Lib.hid (HR2.out.below hb11)
          try replace HR3 := Lib.hid (HR3.out.below hb11)
          try replace HR4 := Lib.hid (HR4.out.below hb11)
          replace HBW := Lib.hid (HBW.out.trans (hb11.mono HBW.out.size))
          clear hb11
          go_wp2_with fail
          go_ret
          exact ⟨rfl, HBW.out⟩
  · go_enter Try.func4, Try.ntmps4
    go_wp2_with fail
    have hb0 := (Below.refl w.heap.size w).alloc (Nat.le_refl _) (.cells cs 40)
    have hkr : Rd (w.alloc (.cells cs 40)) (some ⟨w.heap.size, 0, none⟩) key := by
      refine ⟨HK8.out, fun _ => ⟨_, 0, rfl, by simp, fun i hi => ?_⟩⟩
      rw [HKL.out] at hi
      rw [Nat.zero_add, cell_of_row _ _ _ _ _ _ (heap_alloc_new w _)]
      exact HCI.out i hi
    generalize w.alloc (.cells cs 40) = W at *
    have HB0 := Lib.hid hb0
    have HKR := Lib.hid hkr
    clear hb0 hkr
    go_quiet (fail)
    have hbw := below_drewN' HB0.out nq
    have hkr := HKR.out.drewN nq
    generalize W.drewN nq = V at *
    have HBW := Lib.hid hbw
    have HK := Lib.hid hkr
    have HRA := Lib.hid (HA.out.below hbw)
    have HRB := Lib.hid (HB.out.below hbw)
    clear hbw hkr HB0 HKR HA HB
    go_wp2_with fail
    refine (new_any (some ⟨w.heap.size, 0, none⟩) 32 key V HKL.out HK.out).mono ?_
    rintro e w1 ⟨rfl, hc1, hb1⟩
    have hkb : ∀ i, i < 240 → nth (ks key) i < 256 := fun i _ => nth_lt (ks_lt HK.out.1) i
    have HKB := Lib.hid hkb
    have HC := Lib.hid hc1
    replace HK := Lib.hid (HK.out.below hb1)
    replace HRA := Lib.hid (HRA.out.below hb1)
    replace HRB := Lib.hid (HRB.out.below hb1)
    replace HBW := Lib.hid (HBW.out.trans (hb1.mono HBW.out.size))
    clear hc1 hb1 hkb
    generalize V.heap.size = gc at *
    go_wp2_with fail
    refine (lentb_n A K.length c K w1 rfl HRA.out (by omega)).mono ?_
    rintro e w2 ⟨g1, c1, rfl, hl1, hb2⟩
    try replace HC := Lib.hid (HC.out.below hb2 HC.out.lt)
    try replace HK := Lib.hid (HK.out.below hb2)
    try replace HRA := Lib.hid (HRA.out.below hb2)
    try replace HRB := Lib.hid (HRB.out.below hb2)
    try replace HL1 := Lib.hid (HL1.out.below hb2)
    try replace HL2 := Lib.hid (HL2.out.below hb2)
    try replace HR1 := Lib.hid (HR1.out.below hb2)
    try replace HR2 := Lib.hid (HR2.out.below hb2)
    try replace HR3 := Lib.hid (HR3.out.below hb2)
    try replace HR4 := Lib.hid (HR4.out.below hb2)
    replace HBW := Lib.hid (HBW.out.trans (hb2.mono HBW.out.size))
    clear hb2
    have HL1 := Lib.hid hl1
    clear hl1
    go_wp2_with fail
    refine (lentb_n B S.length d S w2 rfl HRB.out (by omega)).mono ?_
    rintro e w3 ⟨g2, c2, rfl, hl2, hb3⟩
    try replace HC := Lib.hid (HC.out.below hb3 HC.out.lt)
    try replace HK := Lib.hid (HK.out.below hb3)
    try replace HRA := Lib.hid (HRA.out.below hb3)
    try replace HRB := Lib.hid (HRB.out.below hb3)
    try replace HL1 := Lib.hid (HL1.out.below hb3)
    try replace HL2 := Lib.hid (HL2.out.below hb3)
    try replace HR1 := Lib.hid (HR1.out.below hb3)
    try replace HR2 := Lib.hid (HR2.out.below hb3)
    try replace HR3 := Lib.hid (HR3.out.below hb3)
    try replace HR4 := Lib.hid (HR4.out.below hb3)
    replace HBW := Lib.hid (HBW.out.trans (hb3.mono HBW.out.size))
    clear hb3
    have HL2 := Lib.hid hl2
    clear hl2
    go_wp2_with fail
    refine (stream_all gc _ _ c1 (nth (ks key)) K at' n w3 rfl HC.out HKB.out HL1.out.app).mono ?_
    rintro e w4 ⟨A1, d1, rfl, ho4, hb4⟩
    try replace HC := Lib.hid (HC.out.below hb4 HC.out.lt)
    try replace HK := Lib.hid (HK.out.below hb4)
    try replace HRA := Lib.hid (HRA.out.below hb4)
    try replace HRB := Lib.hid (HRB.out.below hb4)
    try replace HL1 := Lib.hid (HL1.out.below hb4)
    try replace HL2 := Lib.hid (HL2.out.below hb4)
    try replace HR1 := Lib.hid (HR1.out.below hb4)
    try replace HR2 := Lib.hid (HR2.out.below hb4)
    try replace HR3 := Lib.hid (HR3.out.below hb4)
    try replace HR4 := Lib.hid (HR4.out.below hb4)
    replace HBW := Lib.hid (HBW.out.trans (hb4.mono HBW.out.size))
    clear hb4
    obtain ⟨_, _, e1, -, -, hr4⟩ := ho4.form
    injection e1 with e1 _ _
    subst e1
    have HR1 := Lib.hid hr4
    clear ho4 hr4
    go_wp2_with fail
    refine (rstream_all (some ⟨w.heap.size, 0, none⟩) 32 A K.length c key K at' n w4 rfl HKL.out (by omega) HK.out HRA.out).mono ?_
    rintro e w5 ⟨A2, d2, rfl, ho5, hb5⟩
    try replace HC := Lib.hid (HC.out.below hb5 HC.out.lt)
    try replace HK := Lib.hid (HK.out.below hb5)
    try replace HRA := Lib.hid (HRA.out.below hb5)
    try replace HRB := Lib.hid (HRB.out.below hb5)
    try replace HL1 := Lib.hid (HL1.out.below hb5)
    try replace HL2 := Lib.hid (HL2.out.below hb5)
    try replace HR1 := Lib.hid (HR1.out.below hb5)
    try replace HR2 := Lib.hid (HR2.out.below hb5)
    try replace HR3 := Lib.hid (HR3.out.below hb5)
    try replace HR4 := Lib.hid (HR4.out.below hb5)
    replace HBW := Lib.hid (HBW.out.trans (hb5.mono HBW.out.size))
    clear hb5
    obtain ⟨_, _, e1, -, -, hr5⟩ := ho5.form
    injection e1 with e1 _ _
    subst e1
    have HR2 := Lib.hid hr5
    clear ho5 hr5
    go_wp2_with fail
    refine (turn_all gc _ _ c1 (nth (ks key)) K at' _ _ c2 S w5 rfl rfl HC.out HKB.out HL1.out.app HL2.out.app).mono ?_
    rintro e w6 ⟨A3, d3, rfl, ho6, hb6⟩
    try replace HC := Lib.hid (HC.out.below hb6 HC.out.lt)
    try replace HK := Lib.hid (HK.out.below hb6)
    try replace HRA := Lib.hid (HRA.out.below hb6)
    try replace HRB := Lib.hid (HRB.out.below hb6)
    try replace HL1 := Lib.hid (HL1.out.below hb6)
    try replace HL2 := Lib.hid (HL2.out.below hb6)
    try replace HR1 := Lib.hid (HR1.out.below hb6)
    try replace HR2 := Lib.hid (HR2.out.below hb6)
    try replace HR3 := Lib.hid (HR3.out.below hb6)
    try replace HR4 := Lib.hid (HR4.out.below hb6)
    replace HBW := Lib.hid (HBW.out.trans (hb6.mono HBW.out.size))
    clear hb6
    obtain ⟨_, _, e1, -, -, hr6⟩ := ho6.form
    injection e1 with e1 _ _
    subst e1
    have HR3 := Lib.hid hr6
    clear ho6 hr6
    go_wp2_with fail
    refine (rstream_all (some ⟨w.heap.size, 0, none⟩) 32 A K.length c key K at' S.length w6 rfl HKL.out (by omega) HK.out HRA.out).mono ?_
    rintro e w7 ⟨A4, d4, rfl, ho7, hb7⟩
    try replace HC := Lib.hid (HC.out.below hb7 HC.out.lt)
    try replace HK := Lib.hid (HK.out.below hb7)
    try replace HRA := Lib.hid (HRA.out.below hb7)
    try replace HRB := Lib.hid (HRB.out.below hb7)
    try replace HL1 := Lib.hid (HL1.out.below hb7)
    try replace HL2 := Lib.hid (HL2.out.below hb7)
    try replace HR1 := Lib.hid (HR1.out.below hb7)
    try replace HR2 := Lib.hid (HR2.out.below hb7)
    try replace HR3 := Lib.hid (HR3.out.below hb7)
    try replace HR4 := Lib.hid (HR4.out.below hb7)
    replace HBW := Lib.hid (HBW.out.trans (hb7.mono HBW.out.size))
    clear hb7
    obtain ⟨_, _, e1, -, -, hr7⟩ := ho7.form
    injection e1 with e1 _ _
    subst e1
    have HR4 := Lib.hid hr7
    clear ho7 hr7
    have hx1 := ctrT_length (nth (ks key)) K at' S
    have hx2 := fun j => @ctrT_nth (nth (ks key)) K at' S j
    have hx3 := @ctrL_le (nth (ks key)) K at' S.length
    have hx4 := @ctrL_le (nth (ks key)) K at' n
    rw [hx1]
    generalize ctrT (nth (ks key)) K at' S = U at *
    generalize ctrL (nth (ks key)) K at' S.length = L at *
    generalize ctrL (nth (ks key)) K at' n = M at *
    generalize ctrE K.length at' S.length = E1 at *
    generalize ctrE K.length at' n = E2 at *
    have HX1 := Lib.hid hx1
    have HX2 := Lib.hid hx2
    clear hx1 hx2
    go_wp2_with fail
    refine (same_yes _ _ M.length M.length _ _ M w7 rfl rfl HR1.out HR2.out (by omega)).mono ?_
    rintro e w8 ⟨rfl, hb8⟩
    try replace HC := Lib.hid (HC.out.below hb8 HC.out.lt)
    try replace HK := Lib.hid (HK.out.below hb8)
    try replace HRA := Lib.hid (HRA.out.below hb8)
    try replace HRB := Lib.hid (HRB.out.below hb8)
    try replace HL1 := Lib.hid (HL1.out.below hb8)
    try replace HL2 := Lib.hid (HL2.out.below hb8)
    try replace HR1 := Lib.hid (HR1.out.below hb8)
    try replace HR2 := Lib.hid (HR2.out.below hb8)
    try replace HR3 := Lib.hid (HR3.out.below hb8)
    try replace HR4 := Lib.hid (HR4.out.below hb8)
    replace HBW := Lib.hid (HBW.out.trans (hb8.mono HBW.out.size))
    clear hb8
    go_wp2_with fail
    go_loopw [23] (fun i wr => ∃ j : Nat, j ≤ L.length ∧ i = .int .i64 j ∧ Below w8.heap.size w8 wr) (fun i _ => L.length - (intOf i).toNat)
    case atStart => exact ⟨0, by omega, rfl, Below.refl _ _⟩
    case round =>
      obtain ⟨j, hj, rfl, hbr⟩ := hrel
      have HBR := Lib.hid hbr
      try replace HC := Lib.hid (HC.out.below hbr HC.out.lt)
      try replace HK := Lib.hid (HK.out.below hbr)
      try replace HRA := Lib.hid (HRA.out.below hbr)
      try replace HRB := Lib.hid (HRB.out.below hbr)
      try replace HL1 := Lib.hid (HL1.out.below hbr)
      try replace HL2 := Lib.hid (HL2.out.below hbr)
      try replace HR1 := Lib.hid (HR1.out.below hbr)
      try replace HR2 := Lib.hid (HR2.out.below hbr)
      try replace HR3 := Lib.hid (HR3.out.below hbr)
      try replace HR4 := Lib.hid (HR4.out.below hbr)
      replace HBW := Lib.hid (HBW.out.trans (hbr.mono HBW.out.size))
      clear hbr
      by_cases e0 : j < L.length
      · obtain ⟨hx5, hx6⟩ := HX2.out j (by rw [HX1.out]; exact e0)
        obtain ⟨g3, o3, rfl, -, h3⟩ := HR3.out.2 (by intro e; have := HX1.out; rw [e] at this; simp at this; omega)
        obtain ⟨g4, o4, rfl, -, h4⟩ := HR4.out.2 (by intro e; rw [e] at e0; simp at e0)
        obtain ⟨g5, o5, rfl, -, h5⟩ := HRB.out.2 (by intro e; rw [e] at hx6; simp at hx6)
        have y3 := h3 j (by rw [HX1.out]; exact e0)
        have y4 := h4 j e0
        have y5 := h5 j hx6
        rw [hx5] at y3
        have y6 : bits BinOp.xor IntKind.u8 (nth L j : Int) (nth S j : Int) = ((nth L j ^^^ nth S j : Nat) : Int) := u8_xor_nat _ _ (nth_lt HR4.out.1 j) (nth_lt HRB.out.1 j)
        have y7 : ((nth L j ^^^ nth S j : Nat) : Int) < 256 := by
          have := Nat.xor_lt_two_pow (n := 8) (nth_lt HR4.out.1 j) (nth_lt HRB.out.1 j)
          omega
        generalize nth L j ^^^ nth S j = X at *
        generalize nth L j = Y at *
        generalize nth S j = Z at *
        clear hx5 h3 h4 h5
        go_wp2_with fail
        go_quiet (fail)
        go_wp2_with fail
        refine ⟨⟨j + 1, by omega, by go_num, below_drewN' HBR.out nq⟩, ?_⟩
        simp [intOf]
        omega
      · obtain rfl : j = L.length := by omega
        go_wp2_with fail
        refine (kept_n _ _ A K.length c K wr rfl HL1.out HRA.out (by omega)).mono ?_
        rintro e w9 ⟨rfl, hb9⟩
        try replace HC := Lib.hid (HC.out.below hb9 HC.out.lt)
        try replace HK := Lib.hid (HK.out.below hb9)
        try replace HRA := Lib.hid (HRA.out.below hb9)
        try replace HRB := Lib.hid (HRB.out.below hb9)
        try replace HL1 := Lib.hid (HL1.out.below hb9)
        try replace HL2 := Lib.hid (HL2.out.below hb9)
        try replace HR1 := Lib.hid (HR1.out.below hb9)
        try replace HR2 := Lib.hid (HR2.out.below hb9)
        try replace HR3 := Lib.hid (HR3.out.below hb9)
        try replace HR4 := Lib.hid (HR4.out.below hb9)
        replace HBW := Lib.hid (HBW.out.trans (hb9.mono HBW.out.size))
        clear hb9
        go_wp2_with fail
        refine (kept_n _ _ B S.length d S w9 rfl HL2.out HRB.out (by omega)).mono ?_
        rintro e w10 ⟨rfl, hb10⟩
        try replace HC := Lib.hid (HC.out.below hb10 HC.out.lt)
        try replace HK := Lib.hid (HK.out.below hb10)
        try replace HRA := Lib.hid (HRA.out.below hb10)
        try replace HRB := Lib.hid (HRB.out.below hb10)
        try replace HL1 := Lib.hid (HL1.out.below hb10)
        try replace HL2 := Lib.hid (HL2.out.below hb10)
        try replace HR1 := Lib.hid (HR1.out.below hb10)
        try replace HR2 := Lib.hid (HR2.out.below hb10)
        try replace HR3 := Lib.hid (HR3.out.below hb10)
        try replace HR4 := Lib.hid (HR4.out.below hb10)
        replace HBW := Lib.hid (HBW.out.trans (hb10.mono HBW.out.size))
        clear hb10
        go_wp2_with fail
        refine (awake_any w10).mono ?_
        rintro e w11 ⟨rfl, hb11⟩
        try replace HC := Lib.hid (HC.out.below hb11 HC.out.lt)
        try replace HK := Lib.hid (HK.out.below hb11)
        try replace HRA := Lib.hid (HRA.out.below hb11)
        try replace HRB := Lib.hid (HRB.out.below hb11)
        try replace HL1 := Lib.hid (HL1.out.below hb11)
        try replace HL2 := Lib.hid (HL2.out.below hb11)
        try replace HR1 := Lib.hid (HR1.out.below hb11)
        try replace HR2 := Lib.hid (HR2.out.below hb11)
        try replace HR3 := Lib.hid (HR3.out.below hb11)
        try replace HR4 := Lib.hid (HR4.out.below hb11)
        replace HBW := Lib.hid (HBW.out.trans (hb11.mono HBW.out.size))
        clear hb11
        go_wp2_with fail
        go_ret
        exact ⟨rfl, HBW.out⟩
theorem ctrTells_walk (cs0 : Array Value) (f0 : Nat → Nat) (A1 : Option Addr) (c1 : Nat) (l1 : List Nat) (a2 a3 : Int) (A4 : Option Addr) (c4 : Nat) (l4 : List Nat) (w : World) (n0 : cs0.size = 32) (h0 : ∀ i, i < 32 → cs0[i]? = some (.int .u8 (f0 i : Nat))) (b0 : ∀ i, i < 32 → f0 i < 256)
    (hr1 : Rd w A1 l1) (hl1 : l1.length ≤ c1) (hm1 : c1 ≤ maxLen) (w2 : (Lit.int .i64 a2).wf = true) (w3 : (Lit.int .i64 a3).wf = true) (hr4 : Rd w A4 l4) (hl4 : l4.length ≤ c4) (hm4 : c4 ≤ maxLen) :
    Calls Try.prog 4 #[.agg cs0, .slice A1 l1.length c1, .int .i64 a2, .int .i64 a3, .slice A4 l4.length c4] w fun e w' => e = .returned (.bool true) ∧ Below w.heap.size w w' := by
  refine ctrTells_any cs0 ((List.range 32).map f0) n0 (by simp) (fun i hi => ?_) (fun x hx => ?_) A1 c1 l1 a2 a3 A4 c4 l4 w hr1 hl1 hr4 hl4
  · rw [h0 i hi]
    simp [nth, hi]
  · obtain ⟨i, hi, rfl⟩ := List.mem_map.1 hx
    exact b0 i (by simpa using hi)
end Go.Proofs.Ytmldpamkghdohaa
