/-
  THE WALK OF quillpresslaw05.AesTells: it returns true. Conditions: the slices read as lists of bytes.
-/
import Derived.Test.YtbnhjhdbjffnkaaAesTelW
import Derived.Test.YtbnhjhdbjffnkaaAesNumW
import Derived.Test.YtbnhjhdbjffnkaaRow
namespace Go.Proofs.Ytbnhjhdbjffnkaa
open Go.RowKit
set_option linter.unusedSimpArgs false
set_option linter.unusedVariables false

theorem quiet_drew {v : Value} {w w' : World} {e : Ending} (h : Quiet v w e w') : e = .returned v ∧ Below w.heap.size w w' := by
  obtain ⟨rfl, n, rfl⟩ := h
  exact ⟨rfl, below_drewN' (Below.refl _ _) n⟩
theorem same_true (A1 A2 : Option Addr) (n1 n2 c1 c2 : Nat) (a : List Nat) (w : World) (h1 : n1 = a.length) (h2 : n2 = a.length) (ha : Rd w A1 a) (hb : Rd w A2 a) (hla : a.length ≤ 9223372036854775807) :
    Calls Try.prog 18 #[.slice A1 n1 c1, .slice A2 n2 c2] w fun e w' => e = .returned (.bool true) ∧ Below w.heap.size w w' := by
  refine (same_n A1 A2 n1 n2 c1 c2 a a w h1 h2 ha hb hla hla).mono fun e w' h => ?_
  have := quiet_drew h
  rwa [show sameB a a = true by simp [sameB]] at this

theorem Rd.app {w : World} {A : Option Addr} {l m : List Nat} (h : Rd w A (l ++ m)) : Rd w A l := by
  refine ⟨fun x hx => h.1 x (by simp [hx]), fun hn => ?_⟩
  obtain ⟨g, o, e, hg, hc⟩ := h.2 (by simp [hn])
  refine ⟨g, o, e, hg, fun i hi => ?_⟩
  rw [hc i (by simp; omega), nth_app_l hi]
/-- The end that all ways have. -/
theorem encrypt_rd {w w1 : World} {g t : Nat} {kb b : Nat → Nat} (h : w1.rowIs g t 16 (fun i => .int .u8 (encN kb b 14 i : Nat))) (lk : ∀ i, i < 240 → kb i < 256) (lb : ∀ i, i < 16 → b i < 256) : Rd w1 (some ⟨g, 0, none⟩) ((List.range 16).map (encN kb b 14)) :=
  row_rd h (fun i hi => encN_lt lk lb 14 (by omega) i hi)

theorem kept_n (g c n base : Nat) (A2 : Option Addr) (c2 : Nat) (l : List Nat) (w : World) (hn : n = l.length) (hv : Lent w base (.slice (some ⟨g, 0, none⟩) l.length c) l) (h : Rd w A2 l) (hl : l.length ≤ 140737488355320) :
    Calls Try.prog 19 #[.slice (some ⟨g, 0, none⟩) n c, .slice A2 n c2] w fun e w' => e = .returned (.bool true) ∧ Below w.heap.size w w' := by
  subst hn
  exact kept_lent _ base A2 c2 l w hv h hl
set_option maxRecDepth 100000 in
set_option maxHeartbeats 4000000 in
theorem tells_any (A B : Option Addr) (c d x y : Nat) (key b : List Nat) (w : World) (hA : Rd w A key) (hB : Rd w B b) (hc : key.length ≤ c) (hd : b.length ≤ d) (hx : x < 256) (hy : y < 256) :
    Calls Try.prog 3 #[.slice A key.length c, .slice B b.length d, .int .u8 x, .int .u8 y] w fun e w' => e = .returned (.bool true) ∧ Below w.heap.size w w' := by
  by_cases hk1 : key.length ≤ 100
  · by_cases hb1 : b.length ≤ 100
    · have i1 : ¬ (100 : Int) < key.length := by omega
      have i2 : ¬ (100 : Int) < b.length := by omega
      have HA := Lib.hid hA
      have HB := Lib.hid hB
      clear hA hB
      by_cases hk2 : key.length = 32
      · have i3 : ((key.length : Int) == 32) = true := by rw [beq_iff_eq]; omega
        have HK := Lib.hid hk2
        clear hk2
        go_enter Try.func3, Try.ntmps3
        go_wp2_with fail
        refine (lentb_any A c key _ HA.out (by omega)).mono ?_
        rintro e w1 ⟨v1, rfl, hv1, hb1'⟩
        have HV1 := Lib.hid hv1
        have HB1 := Lib.hid hb1'
        clear hv1 hb1'
        go_wp2_with fail
        refine (lentb_any B d b _ (HB.out.below HB1.out) (by omega)).mono ?_
        rintro e w2 ⟨v2, rfl, hv2, hb2'⟩
        replace HV1 := Lib.hid (HV1.out.below hb2')
        have HV2 := Lib.hid hv2
        replace HB1 := Lib.hid (HB1.out.trans (hb2'.mono HB1.out.size))
        clear hv2 hb2'
        obtain ⟨g1, c1, e1, hc1, hg1, hr1⟩ := HV1.out
        obtain ⟨g2, c2, e2, hc2, hg2, hr2⟩ := HV2.out
        have E1 := Lib.hid e1
        have E2 := Lib.hid e2
        have HR1 := Lib.hid hr1.app
        have HR2 := Lib.hid hr2.app
        clear e1 e2 hr1 hr2
        rw [E1.out, E2.out]
        go_wp2_with fail
        rw [HK.out]
        refine (new_any (some ⟨g1, 0, none⟩) c1 key w2 HK.out HR1.out).mono ?_
        rintro e w3 ⟨rfl, hc3, hb3⟩
        have HC := Lib.hid hc3
        replace HV1 := Lib.hid (HV1.out.below hb3)
        replace HV2 := Lib.hid (HV2.out.below hb3)
        replace HR2 := Lib.hid (HR2.out.below hb3)
        replace HB1 := Lib.hid (HB1.out.trans (hb3.mono HB1.out.size))
        clear hc3 hb3
        generalize w2.heap.size = gc at *
        have lk : ∀ i, i < 240 → nth (ks key) i < 256 := fun i _ => nth_lt (ks_lt HA.out.1) i
        have lb : ∀ i, i < 16 → nth b i < 256 := fun i _ => nth_lt HB.out.1 i
        have LK := Lib.hid lk
        have LB := Lib.hid lb
        clear lk lb
        go_wp2_with fail
        refine (times_any x y hx hy _).mono ?_
        rintro e w' ⟨rfl, rfl⟩
        go_wp2_with fail
        refine (rtimes_q x y hx hy _).mono ?_
        rintro e w' ⟨rfl, rfl⟩
        go_wp2_with fail
        refine (sub_any x hx _).mono ?_
        rintro e w' ⟨rfl, rfl⟩
        go_wp2_with fail
        refine (rsub_any x hx _).mono ?_
        rintro e w' ⟨rfl, rfl⟩
        go_wp2_with fail
        by_cases hb2 : b.length = 16
        · have HBL := Lib.hid hb2
          clear hb2
          rw [HBL.out]
          obtain ⟨gb, ob, e3, hgb, hcb⟩ := HR2.out.2 (by intro e; have := HBL.out; rw [e] at this; simp at this)
          injection e3 with e3
          injection e3 with e4 e5
          subst e4; subst e5
          rw [HBL.out] at hcb
          refine (encrypt_any gc g2 0 c2 (nth (ks key)) (nth b) w3 HC.out LK.out LB.out hcb).mono ?_
          rintro e w4 ⟨rfl, hr4, hb4⟩
          have HR4 := Lib.hid (encrypt_rd (w := w) hr4 LK.out LB.out)
          replace HV1 := Lib.hid (HV1.out.below hb4)
          replace HV2 := Lib.hid (HV2.out.below hb4)
          replace HB1 := Lib.hid (HB1.out.trans (hb4.mono HB1.out.size))
          clear hr4 hb4 hcb
          generalize w3.heap.size = g4 at *
          go_wp2_with fail
          refine (rencrypt_any A B c d key b w4 HK.out HBL.out (by have := HK.out; omega) (HA.out.below HB1.out) (HB.out.below HB1.out)).mono ?_
          rintro e w5 ⟨v5, rfl, ho5, hb5⟩
          replace HR4 := Lib.hid (HR4.out.below hb5)
          replace HV1 := Lib.hid (HV1.out.below hb5)
          replace HV2 := Lib.hid (HV2.out.below hb5)
          replace HB1 := Lib.hid (HB1.out.trans (hb5.mono HB1.out.size))
          obtain ⟨A5, c5, rfl, -, -, hr5⟩ := ho5.form
          have HR5 := Lib.hid hr5
          clear hr5 hb5 ho5
          go_wp2_with fail
          refine (same_true _ _ _ _ _ _ _ w5 (by simp) rfl HR4.out HR5.out (by simp)).mono ?_
          rintro e w6 ⟨rfl, hb6⟩
          replace HV1 := Lib.hid (HV1.out.below hb6)
          replace HV2 := Lib.hid (HV2.out.below hb6)
          replace HB1 := Lib.hid (HB1.out.trans (hb6.mono HB1.out.size))
          clear hb6
          go_wp2_with fail
          refine (kept_n g1 c1 32 w.heap.size A c key w6 HK.out.symm (by rw [← E1.out]; exact HV1.out) (HA.out.below HB1.out) (by omega)).mono ?_
          rintro e w8 ⟨rfl, hb8⟩
          replace HV2 := Lib.hid (HV2.out.below hb8)
          replace HB1 := Lib.hid (HB1.out.trans (hb8.mono HB1.out.size))
          clear hb8
          go_wp2_with fail
          refine (kept_n g2 c2 16 _ B d b w8 HBL.out.symm (by rw [← E2.out]; exact HV2.out) (HB.out.below HB1.out) (by omega)).mono ?_
          rintro e w9 ⟨rfl, hb9⟩
          replace HB1 := Lib.hid (HB1.out.trans (hb9.mono HB1.out.size))
          clear hb9
          go_wp2_with fail
          refine (awake_any w9).mono ?_
          rintro e w10 ⟨rfl, hb10⟩
          replace HB1 := Lib.hid (HB1.out.trans (hb10.mono HB1.out.size))
          clear hb10
          go_wp2_with fail
          go_ret
          exact ⟨rfl, HB1.out⟩
        · have HBL := Lib.hid hb2
          clear hb2
          refine (encrypt_no _ _ 2 (by omega) w3 (may_len _ _ _ _ _ HC.out.mark HBL.out)).mono ?_
          rintro e w' ⟨rfl, rfl⟩
          go_wp2_with fail
          refine (rencrypt_no A B 32 b.length c d w3 (.inr HBL.out)).mono ?_
          rintro e w' ⟨rfl, rfl⟩
          go_wp2_with fail
          refine (same_true none none 0 0 0 0 [] w3 rfl rfl Rd.nil Rd.nil (by simp)).mono ?_
          rintro e w6 ⟨rfl, hb6⟩
          replace HV1 := Lib.hid (HV1.out.below hb6)
          replace HV2 := Lib.hid (HV2.out.below hb6)
          replace HB1 := Lib.hid (HB1.out.trans (hb6.mono HB1.out.size))
          clear hb6
          go_wp2_with fail
          refine (kept_n g1 c1 32 w.heap.size A c key w6 HK.out.symm (by rw [← E1.out]; exact HV1.out) (HA.out.below HB1.out) (by omega)).mono ?_
          rintro e w8 ⟨rfl, hb8⟩
          replace HV2 := Lib.hid (HV2.out.below hb8)
          replace HB1 := Lib.hid (HB1.out.trans (hb8.mono HB1.out.size))
          clear hb8
          go_wp2_with fail
          refine (kept_n g2 c2 b.length _ B d b w8 rfl (by rw [← E2.out]; exact HV2.out) (HB.out.below HB1.out) (by omega)).mono ?_
          rintro e w9 ⟨rfl, hb9⟩
          replace HB1 := Lib.hid (HB1.out.trans (hb9.mono HB1.out.size))
          clear hb9
          go_wp2_with fail
          refine (awake_any w9).mono ?_
          rintro e w10 ⟨rfl, hb10⟩
          replace HB1 := Lib.hid (HB1.out.trans (hb10.mono HB1.out.size))
          clear hb10
          go_wp2_with fail
          go_ret
          exact ⟨rfl, HB1.out⟩
      · have i3 : ((key.length : Int) == 32) = false := by rw [beq_eq_false_iff_ne]; omega
        have HK := Lib.hid hk2
        clear hk2
        go_enter Try.func3, Try.ntmps3
        go_wp2_with fail
        refine (lentb_any A c key _ HA.out (by omega)).mono ?_
        rintro e w1 ⟨v1, rfl, hv1, hb1'⟩
        have HV1 := Lib.hid hv1
        have HB1 := Lib.hid hb1'
        clear hv1 hb1'
        go_wp2_with fail
        refine (lentb_any B d b _ (HB.out.below HB1.out) (by omega)).mono ?_
        rintro e w2 ⟨v2, rfl, hv2, hb2'⟩
        replace HV1 := Lib.hid (HV1.out.below hb2')
        have HV2 := Lib.hid hv2
        replace HB1 := Lib.hid (HB1.out.trans (hb2'.mono HB1.out.size))
        clear hv2 hb2'
        obtain ⟨g1, c1, e1, hc1, hg1, hr1⟩ := HV1.out
        obtain ⟨g2, c2, e2, hc2, hg2, hr2⟩ := HV2.out
        have E1 := Lib.hid e1
        have E2 := Lib.hid e2
        have HR1 := Lib.hid hr1.app
        have HR2 := Lib.hid hr2.app
        clear e1 e2 hr1 hr2
        rw [E1.out, E2.out]
        go_wp2_with fail
        refine (new_len _ key.length c1 w2 HK.out).mono ?_
        rintro e w' ⟨rfl, rfl⟩
        go_wp2_with fail
        refine (times_any x y hx hy _).mono ?_
        rintro e w' ⟨rfl, rfl⟩
        go_wp2_with fail
        refine (rtimes_q x y hx hy _).mono ?_
        rintro e w' ⟨rfl, rfl⟩
        go_wp2_with fail
        refine (sub_any x hx _).mono ?_
        rintro e w' ⟨rfl, rfl⟩
        go_wp2_with fail
        refine (rsub_any x hx _).mono ?_
        rintro e w' ⟨rfl, rfl⟩
        go_wp2_with fail
        refine (awake_any w2).mono ?_
        rintro e w10 ⟨rfl, hb10⟩
        replace HB1 := Lib.hid (HB1.out.trans (hb10.mono HB1.out.size))
        clear hb10
        go_wp2_with fail
        go_ret
        exact ⟨rfl, HB1.out⟩
    · have i1 : ¬ (100 : Int) < key.length := by omega
      have i2 : (100 : Int) < b.length := by omega
      clear hA hB
      go_enter Try.func3, Try.ntmps3
      go_wp2_with fail
      refine (awake_any _).mono ?_
      rintro e w10 ⟨rfl, hb10⟩
      go_wp2_with fail
      go_ret
      exact ⟨rfl, hb10⟩
  · have i1 : (100 : Int) < key.length := by omega
    clear hA hB
    go_enter Try.func3, Try.ntmps3
    go_wp2_with fail
    refine (awake_any _).mono ?_
    rintro e w10 ⟨rfl, hb10⟩
    go_wp2_with fail
    go_ret
    exact ⟨rfl, hb10⟩
theorem aesTells_walk (A : Option Addr) (c : Nat) (key : List Nat) (B : Option Addr) (d : Nat) (b : List Nat) (a2 : Int) (a3 : Int) (w : World) (hr0 : Rd w A key) (hl0 : key.length ≤ c) (hm0 : c ≤ maxLen) (hr1 : Rd w B b) (hl1 : b.length ≤ d) (hm1 : d ≤ maxLen)
    (w2 : (Lit.int .u8 a2).wf = true) (w3 : (Lit.int .u8 a3).wf = true) : Calls Try.prog 3 #[.slice A key.length c, .slice B b.length d, .int .u8 a2, .int .u8 a3] w fun e w' => e = .returned (.bool true) ∧ Below w.heap.size w w' := by
  obtain ⟨x, hx, rfl⟩ := nat_of_u8 w2
  obtain ⟨y, hy, rfl⟩ := nat_of_u8 w3
  exact tells_any A B c d x y key b w hr0 hr1 hl0 hl1 hx hy
end Go.Proofs.Ytbnhjhdbjffnkaa
