/-
  THE WALK OF quillpresslaw29.forged: it returns true. Conditions: none.
-/
import Derived.Test.YtlhbijpmhokmnaaGreatQ40
import Derived.Test.YtlhbijpmhokmnaaGreatQ42
namespace Go.Proofs.YtlhbijpmhokmnaaGreat
open Go.RowKit
set_option linter.unusedSimpArgs false
set_option linter.unusedVariables false

theorem nth_jk {f n i : Nat} {junk base : List Nat} (hi : i < base.length) : nth (jk f junk base n) i = if f ≤ i ∧ i < n then nth junk ((i - f) % junk.length) else nth base i := by
  unfold jk
  show ((List.range base.length).map fun j => if f ≤ j ∧ j < n then nth junk ((j - f) % junk.length) else nth base j).getD i 0 = _
  rw [List.getD_eq_getElem?_getD, List.getElem?_map, List.getElem?_range hi]
  rfl
theorem tA_len (j : Nat) (b : List Nat) : ∀ k, k < 5 → (tA (headL j b.length) b (commitL j (headL j b.length) b) k).length ≤ 29 + b.length
  | 0, _ => by show 0 ≤ _; omega
  | 1, _ => by show (headL j b.length).length ≤ _; rw [headL_length]; omega
  | 2, _ => by show (headL j b.length).length ≤ _; rw [headL_length]; omega
  | 3, _ => by show (headL j b.length ++ b).length ≤ _; rw [List.length_append, headL_length]; omega
  | 4, _ => by show (headL j b.length ++ b).length ≤ _; rw [List.length_append, headL_length]; omega
theorem bas_one_len (b : List Nat) : (bas [b]).length = 75 + b.length := by
  have e := bas_snoc [] b
  rw [List.nil_append] at e
  rw [e, List.length_append, txL_length, bas_nil]
  show 21 + _ = _
  omega
/-- What a crash with bytes that are no commit leaves of one that was cut short. -/
theorem forged_told {p : DkS} {a : Nat} {b junk : List Nat} (ha : a < 6) (hg : GoodB b) (hb : b.length = 60) (h : Mid p 1000 (bas []) (tA (headL 1 b.length) b (commitL 1 (headL 1 b.length) b) a) (oA (headL 1 b.length) b (commitL 1 (headL 1 b.length) b) a))
    (hj : junk ≠ []) (h0 : nth junk 0 ≠ 122) : ∃ r, Told (crLeft p 1000 junk) [] r := by
  have hfl : p.floor ≤ p.now.length := by
    rw [h.floor, h.now, List.length_append]
    have := (oA_tA (headL 1 b.length) b (commitL 1 (headL 1 b.length) b) a ha).length_le
    omega
  have hct := crash_to_plain hfl 1000 (by decide) junk
  rcases crash_torn (L := []) (b := b) ⟨a, ha, .inl h⟩ (fun x hx => by cases hx) hg hct with h1 | h1
  · exact h1.now
  · exfalso
    obtain ⟨r, hr⟩ := h1.now
    have hr : Told (crLeft p 1000 junk) [b] r := hr
    have hl := congrArg List.length hr.bas'
    rw [List.length_append, bas_one_len, hb] at hl
    have hle := (crLeft_two p hfl 1000 (by decide) junk).2.1
    have hnl : p.now.length = 21 + (tA (headL 1 b.length) b (commitL 1 (headL 1 b.length) b) a).length := by rw [h.now, List.length_append, bas_nil]; rfl
    by_cases h5 : a < 5
    · have := tA_len 1 b a h5
      omega
    · obtain rfl : a = 5 := by omega
      have hw : (tA (headL 1 b.length) b (commitL 1 (headL 1 b.length) b) 5) = txL 1 b := tx_parts _ _
      rw [hw] at h hnl
      rw [txL_length, hb] at hnl
      have hr0 : r = [] := List.eq_nil_of_length_eq_zero (by omega)
      have hfloor : p.floor = 110 := by
        rw [h.floor, bas_nil]
        show 21 + (headL 1 b.length ++ b).length = 110
        rw [List.length_append, headL_length, hb]
      have hq := hr.bas'
      rw [hr0, List.append_nil] at hq
      have e1 : nth (bas [b]) 110 = 122 := by
        have e := bas_snoc [] b
        rw [List.nil_append] at e
        rw [e]
        show nth (bas [] ++ txL 1 b) 110 = 122
        rw [← tx_parts]
        have e2 := f_nth_right (bas []) (headL 1 b.length ++ b ++ commitL 1 (headL 1 b.length) b) 89
        rw [show (bas []).length + 89 = 110 by rw [bas_nil]; rfl] at e2
        rw [e2]
        have e3 := f_nth_right (headL 1 b.length ++ b) (commitL 1 (headL 1 b.length) b) 0
        rw [show (headL 1 b.length ++ b).length + 0 = 89 by rw [List.length_append, headL_length, hb]] at e3
        rw [e3]
        rfl
      rw [← hq] at e1
      unfold crLeft at e1
      rw [if_neg (by decide), if_neg hj] at e1
      have hx : (min (1000 : Int) (p.now.length - p.floor : Nat)).toNat = 25 := by rw [hnl, hfloor]; decide
      have hbt : p.now.take (p.floor + 25) = p.now := List.take_of_length_le (by rw [hnl, hfloor]; decide)
      rw [hx, hbt, nth_jk (by rw [hnl]; decide)] at e1
      have hcf : crFrom p.floor p.now.length = 110 := by rw [hnl, hfloor]; decide
      rw [hcf, if_pos ⟨Nat.le_refl _, by rw [hnl]; decide⟩] at e1
      rw [Nat.sub_self, Nat.zero_mod] at e1
      exact h0 e1
/-- A commit with a bit turned. -/
theorem flip_told {b D : List Nat} {k x : Nat} (hg : GoodB b) (hb : b.length = 60) (hk1 : 1 ≤ k) (hk : k ≤ 25) (hD : D = (bas [b]).set (135 - k) x) (hx : x ≠ nth (bas [b]) (135 - k)) : ∃ r, Told D [] r := by
  have e := bas_snoc [] b
  rw [List.nil_append] at e
  have e : bas [b] = bas [] ++ txL 1 b := e
  have hl0 : (bas []).length = 21 := by rw [bas_nil]; rfl
  have hR : D = bas [] ++ (txL 1 b).set (114 - k) x := by
    rw [hD, e, List.set_append_right _ _ (by rw [hl0]; omega), hl0, show 135 - k - 21 = 114 - k by omega]
  rw [hR]
  refine ⟨_, told_mk (fun y hy => by cases hy) ?_⟩
  have hpx : headL 1 b.length ++ b <+: (txL 1 b).set (114 - k) x := by
    rw [← tx_parts, List.set_append_right _ _ (by rw [List.length_append, headL_length, hb]; omega)]
    exact List.prefix_append _ _
  rcases one_body (k := 1) hg hpx (by rw [List.length_set, txL_length]; exact Nat.le_refl _) with h | ⟨_, h⟩
  · exact h
  · exfalso
    have h1 : nth ((txL 1 b).set (114 - k) x) (114 - k) = x := by
      unfold nth
      rw [List.getD_eq_getElem?_getD, List.getElem?_set_self (by rw [txL_length, hb]; omega)]
      rfl
    rw [h] at h1
    apply hx
    rw [← h1, e]
    have := f_nth_right (bas []) (txL 1 b) (114 - k)
    rw [hl0, show 21 + (114 - k) = 135 - k by omega] at this
    exact this.symm
theorem u8_xor4 (x : Nat) (hx : x < 256) : bits .xor .u8 (x : Int) 4 = ((x ^^^ 4 : Nat) : Int) := u8_xor_nat x 4 hx (by decide)
theorem xor4_ne (x : Nat) : x ^^^ 4 ≠ x := fun h => by
  have h2 := congrArg (fun y => x ^^^ y) h
  simp only [← Nat.xor_assoc, Nat.xor_self, Nat.zero_xor] at h2
  cases h2
theorem vimage_ow {w0 w : World} {base gf gd : Nat} {p : DkS} (h : Ff base w0 w gf gd none [] p) : Calls Tryz.prog 10 #[.pointer (some ⟨gd, 0, none⟩)] w fun e w' => ∃ v, e = .returned v ∧ Ow w' w.heap.size v p.now ∧ Below w.heap.size w w' := by
  obtain ⟨nb, ob, h1, -⟩ := h
  obtain ⟨d, q1, q2⟩ := h1.ex
  have hn : d.now = p.now := q2.now
  rw [← hn]
  obtain ⟨A, c, h2, hc1, hc2, hr, hb⟩ := q1.dk.nowC
  have hl : d.now.length ≤ 140737488355328 := by have := q1.dk.wf.now; have := q1.dk.wf.most; omega
  have H := Lib.hid q1.dk
  have HR := Lib.hid hr
  clear h1 q1 q2 hn hr hb
  go_enter Tryz.func10, Tryz.ntmps10
  go_wp2_with fail
  refine (none_any H.out).mono ?_
  rintro e w' ⟨rfl, rfl⟩
  go_wp2_with fail
  refine (clone_ow A _ c d.now _ rfl HR.out hl).mono ?_
  rintro e w1 ⟨v, rfl, hs, hbl⟩
  have HS := Lib.hid hs
  have HL := Lib.hid hbl
  clear hs hbl
  go_wp2_with fail
  go_ret
  exact ⟨v, rfl, HS.out, HL.out⟩
set_option maxRecDepth 100000 in
set_option maxHeartbeats 16000000 in
theorem forged_any (w : World) : Calls Tryz.prog 24 #[] w fun e w' => e = .returned (.bool true) ∧ Below w.heap.size w w' := by
  have kc := fun (w : World) (C : Array Value) (n c : Nat) => Lib.run_convert_bytes_const (P := Tryz.prog) w 22 5 C n c Tryz.underlying22 Tryz.underlying5
  go_enter Tryz.func24, Tryz.ntmps24
  go_wp2_with fail
  refine (madeS_any 3 60 (by decide) w).mono ?_
  rintro e w1 ⟨vb, b, rfl, hbl, -, hob, hb1⟩
  obtain ⟨A1, c1, rfl, -, -, hr1⟩ := hob.form
  rw [hbl]
  have HBL := Lib.hid hbl
  have HR1 := Lib.hid hr1
  have HB1 := Lib.hid hb1
  clear hbl hob hr1 hb1
  have hax : Below w1.heap.size w1 (w1.alloc (.cells #[.int .u8 120] 5 (1, 1 + 1))) := (Below.refl _ _).alloc (Nat.le_refl _) _
  have hx1 := constW_rd w1 5 [120] (by decide) (1, 1 + 1)
  have HX1 := Lib.hid hx1
  have HAX := Lib.hid hax
  clear hax hx1
  go_wp2_with (first
    | (refine wpList_buildFlat rfl 22 5 1 _ rfl .u8 [120] Tryz.underlying22 (by kernel_rfl) (by kernel_rfl) rfl (by decide) (by decide) rfl ?_)
    | (refine wpList_conv_const rfl (.tmp 36) rfl (bs [120]).toArray 1 1 rfl ?_))
  refine (tx_any 1 (some ⟨w1.heap.size, 0, none⟩) 1 1 [120] _ rfl (by decide) HX1.out).mono ?_
  rintro e w2 ⟨A2, c2, h2, A4, c4, l4, rfl, hr2, hl2, hn2, hr4, hl4, hb2⟩
  have HB2 := Lib.hid (HAX.out.trans (hb2.mono HAX.out.size))
  have HR1' := Lib.hid (HR1.out.below HB2.out)
  have HR2 := Lib.hid hr2
  have HR4 := Lib.hid hr4
  have HX2 := Lib.hid (HX1.out.below hb2)
  have HL2 := Lib.hid hl2
  have HN2 := Lib.hid hn2
  have HL4 := Lib.hid hl4
  clear hr2 hl2 hn2 hr4 hl4 hb2 HR1 HX1 HAX
  have hz : Below w2.heap.size w2 (w2.alloc (.cells #[] 5)) := (Below.refl _ _).alloc (Nat.le_refl _) _
  have HZ := Lib.hid hz
  have HOZ := Lib.hid (Ow.zero w2)
  have HRA := Lib.hid (HR2.out.below hz)
  clear hz
  go_wp2_with (first
    | (at_builtin; refine append_bytes (.tmp 42) (.tmp 43) rfl rfl rfl HOZ.out A2 29 c2 h2 rfl HL2.out.symm HRA.out (by rw [HL2.out]; decide) HZ.out.size ?_; intro v3 w3 ho3 hg3 ha3; rw [List.nil_append] at ho3; have HB3 := Lib.hid (HZ.out.grown hg3 HZ.out.size (fun x e => (HOZ.out.lt x e).1)); have HO3 := Lib.hid ho3; have HX3 := Lib.hid (HX2.out.below HB3.out); clear ho3 hg3 ha3)
    | (at_builtin; refine append_bytes (.tmp 44) (.tmp 45) rfl rfl rfl HO3.out _ 1 1 [120] rfl rfl HX3.out (by rw [HL2.out]; decide) HB3.out.size ?_; intro v5 w5 ho5 hg5 ha5; have HB5 := Lib.hid (HB3.out.grown hg5 HB3.out.size (fun x e => (HO3.out.lt x e).1)); have HO5 := Lib.hid ho5; have HR5 := Lib.hid (HR4.out.below HB5.out); clear ho5 hg5 ha5)
    | (at_builtin; refine append_bytes (.tmp 46) (.tmp 47) rfl rfl rfl HO5.out A4 25 c4 l4 rfl HL4.out.symm HR5.out (by rw [List.length_append, HL2.out, HL4.out]; decide) HB5.out.size ?_; intro v6 w6 ho6 hg6 ha6; have HB6 := Lib.hid (HB5.out.grown hg6 HB5.out.size (fun x e => (HO5.out.lt x e).1)); obtain ⟨wh, hwh⟩ : ∃ wh, wh = h2 ++ [120] ++ l4 := ⟨_, rfl⟩; have hwl : wh.length = 55 := (by rw [hwh, List.length_append, List.length_append, HL2.out, HL4.out]; rfl); have hw0 : nth wh 0 = 99 := (by rw [hwh, List.append_assoc, nth_app_zero _ _ (by rw [HL2.out]; decide)]; exact HN2.out); rw [← hwh] at ho6; obtain ⟨A6, c6, rfl, -, -, hr6⟩ := ho6.form; rw [hwl]; have HWL := Lib.hid hwl; have HW0 := Lib.hid hw0; have HR6 := Lib.hid hr6; clear ho6 hg6 ha6 hwh hwl hw0 hr6))
  refine (madeS_any 4 60 (by decide) w6).mono ?_
  rintro e w7 ⟨vo, ot, rfl, hol, ho0, hoo, hb7⟩
  have ho0 := (ho0 (by decide)).trans made4_first
  obtain ⟨A7, c7, rfl, -, -, hr7⟩ := hoo.form
  rw [hol]
  have HOL := Lib.hid hol
  have HO0 := Lib.hid ho0
  have HR7 := Lib.hid hr7
  have HB7 := Lib.hid (HB6.out.trans (hb7.mono HB6.out.size))
  have HW7 := Lib.hid (HR6.out.below hb7)
  clear hol ho0 hoo hr7 hb7 HR6 HB5 HB3 HO5 HO3 HX3 HX2 HR5 HOZ HZ HRA
  go_wp2_with fail
  refine (tx_any 1 A7 60 c7 ot w7 HOL.out.symm (by rw [HOL.out]; decide) HR7.out).mono ?_
  rintro e Z ⟨A8, c8, h8, A9, c9, l9, rfl, -, -, -, hr9, hl9, hb8⟩
  have HBZ := Lib.hid (HB1.out.trans ((HB2.out.trans ((HB7.out.trans (hb8.mono HB7.out.size)).mono HB2.out.size)).mono HB1.out.size))
  have HRB := Lib.hid (HR1'.out.below (HB7.out.trans (hb8.mono HB7.out.size)))
  have HRW := Lib.hid (HW7.out.below hb8)
  have HRO := Lib.hid (HR7.out.below hb8)
  have HR9 := Lib.hid hr9
  have HL9 := Lib.hid hl9
  clear hr9 hl9 hb8 HB1 HB2 HB6 HB7 HR1' HW7 HR7 HR2 HR4 HN2 HL2 HL4
  go_wp2_with fail
  go_loopw [10] (fun v10 wr => ∃ a : Nat, a ≤ 6 ∧ v10 = .int .i64 a ∧ Below Z.heap.size Z wr) (fun v _ => 6 - (intOf v).toNat)
  case atStart => exact ⟨0, by omega, rfl, Below.refl _ _⟩
  case round =>
    obtain ⟨a, ha, rfl, hb⟩ := hrel
    have HB := Lib.hid hb
    clear hb
    by_cases a6 : a < 6
    · have a6' : (a : Int) < 6 := by omega
      go_wp2_with fail
      generalize hwz : wr = Y at *
      clear hwz
      go_loopw [11] (fun v11 wq => ∃ i : Nat, i ≤ 2 ∧ v11 = .int .i64 i ∧ Below Y.heap.size Y wq) (fun v _ => 2 - (intOf v).toNat)
      case atStart => exact ⟨0, by omega, rfl, Below.refl _ _⟩
      case round =>
        obtain ⟨i, hi, rfl, hb⟩ := hrel
        have HBQ := Lib.hid (HB.out.trans (hb.mono HB.out.size))
        have HBY := Lib.hid hb
        clear hb
        by_cases i2 : i < 2
        · have i2' : (i : Int) < 2 := by omega
          go_wp2_with fail
          refine (jbegun_any 1000 (by omega) (by omega) wr).mono ?_
          rintro e x3 ⟨gf, gd, gj, rfl, hf, hj, hgj⟩
          have hb3 : Below wr.heap.size wr x3 := by obtain ⟨_, _, _, _, _, _, hb0⟩ := hf; exact hb0
          have HB3 := Lib.hid (HBQ.out.trans (hb3.mono HBQ.out.size))
          have HF3 := Lib.hid hf
          have HJ3 := Lib.hid hj
          have HG5 := Lib.hid hgj
          clear hf hj hgj hb3
          obtain rfl | rfl : i = 0 ∨ i = 1 := by omega
          · go_wp2_with fail
            generalize hx5 : x3 = x5 at *
            clear hx5
            have HF5 := HF3
            have HJ5 := HJ3
            have HB5 := HB3
            have HJR5 := Lib.hid (HRW.out.below HB5.out)
            obtain ⟨nb5, ob5, hv5, hcall5, -, -⟩ := HF5.out.call
            have HC5 := Lib.hid hcall5
            have HV5 := Lib.hid hv5
            clear hv5 hcall5
            refine (varm_any HV5.out a (by omega) (by omega)).mono ?_
            rintro e x6 ⟨rfl, hva⟩
            have hg6 : x5.grownBy x6 (some gd) := by obtain ⟨_, _, _, _, _, hg⟩ := hva; exact hg
            have HF6 := Lib.hid (HC5.out _ _ hva)
            have HJ6 := Lib.hid (HJ5.out.grown HV5.out hg6)
            have HR6 := Lib.hid (HF5.out.rd (HRB.out.below HB5.out) hg6)
            have HJR6 := Lib.hid (HF5.out.rd HJR5.out hg6)
            clear hva hg6 HC5 HV5
            go_wp2_with fail
            have hrest : Rest { mkD 1000 txt with armed := (a : Int) } 1000 [] := by
              have := mk_rest 1000
              exact ⟨rfl, this.now, this.old, this.floor, fun h => absurd rfl h⟩
            have hgb : GoodB b := by unfold GoodB; rw [HBL.out]; decide
            have hba : (bas []).length + 54 + b.length ≤ 1000 := by rw [bas_nil, HBL.out]; decide
            have HGB := Lib.hid hgb
            have HBA := Lib.hid hba
            have HREST := Lib.hid hrest
            clear hrest hgb hba
            obtain ⟨nb6, ob6, hv6, -, -, hcj6⟩ := HF6.out.call
            have HCJ6 := Lib.hid hcj6
            have HV6 := Lib.hid hv6
            clear hv6 hcj6
            refine (jadd_any HJ6.out HV6.out A1 60 c1 b HBL.out.symm HGB.out HR6.out (by decide) (show 21 ≤ txt.length by decide)).mono ?_
            rintro e x7 ⟨r, rfl, p', n', e', br, hao, hja⟩
            obtain ⟨rfl, -, -, -, hmid⟩ := arm_out (L := []) ⟨rfl, rfl, rfl⟩ a6 HREST.out HBA.out hao
            obtain ⟨hf7, hj7⟩ := HCJ6.out _ _ _ _ _ _ HG5.out hja
            have hrj7 : Rd x7 A6 (wh) := by
              obtain ⟨_, _, _, _, _, _, ht⟩ := hja
              exact rd_two HV6.out HJ6.out ht HJR6.out
            have HF7 := Lib.hid hf7
            have HMID := Lib.hid hmid
            have HRJ7 := Lib.hid hrj7
            clear hao hja hf7 hj7 hrj7 hmid HCJ6 HV6 HF6 HJ6 HR6 HJR6
            go_wp2_with fail
            obtain ⟨nb7, ob7, hv7, hcall7, -, -⟩ := HF7.out.call
            have HC7 := Lib.hid hcall7
            have HV7 := Lib.hid hv7
            clear hv7 hcall7
            refine (vcrash_plain HV7.out 1000 (by decide) A6 55 c6 (wh) HWL.out.symm HRJ7.out (by rw [← HWL.out.symm]; decide)).mono ?_
            rintro e x8 ⟨rfl, hva⟩
            have HF8 := Lib.hid (HC7.out _ _ hva)
            clear hva HC7 HV7 HF7 HRJ7
            go_wp2_with fail
            have htd := forged_told a6 HGB.out HBL.out HMID.out (junk := wh) (by intro h; have h2 := HWL.out.symm; rw [h] at h2; cases h2) (by rw [HW0.out]; decide)
            obtain ⟨rr, htd⟩ := htd
            refine (jopen_calm (L := []) (r := rr) (m := 1000) HF8.out ⟨rfl, rfl, rfl⟩ htd HMID.out.most (fun _ => ⟨rfl, rfl⟩)).mono ?_
            rintro e x9 ⟨gj9, v9, rfl, had9, hlo9, -, -, -, -⟩
            obtain ⟨A9', c9', rfl, -⟩ := hlo9.rds
            have hb9 : Below wr.heap.size wr x9 := by
              obtain ⟨p9, q9, -⟩ := had9
              obtain ⟨_, _, _, _, _, _, hb0⟩ := q9
              exact hb0
            have HB9 := Lib.hid hb9
            rw [show ([] : List (List Nat)).length = 0 from rfl]
            clear htd had9 hlo9 hb9 HF8 HMID
            go_wp2_with fail
            go_roundw
            case rel => exact ⟨1, by omega, rfl, HBY.out.trans (HB9.out.mono HBY.out.size)⟩
            case measure => simp [intOf]
          · go_wp2_with fail
            refine (copyb_any A7 60 c7 ot x3 HOL.out.symm (HRO.out.below HB3.out) (by rw [HOL.out]; decide)).mono ?_
            rintro e x4 ⟨v4, rfl, ho4, hb4⟩
            have HO4 := Lib.hid ho4
            have HBB4 := Lib.hid hb4
            have HR94 := Lib.hid (HR9.out.below (HB3.out.trans (hb4.mono HB3.out.size)))
            clear ho4 hb4
            go_wp2_with (at_builtin; refine append_bytes (.tmp 73) (.tmp 74) rfl rfl rfl HO4.out A9 25 c9 l9 rfl HL9.out.symm HR94.out (by rw [HOL.out, HL9.out]; decide) HBB4.out.size ?_; intro v5 x5 ho5 hg5 ha5; have HBB5 := Lib.hid (HBB4.out.grown hg5 HBB4.out.size (fun x e => (HO4.out.lt x e).1)); obtain ⟨jl, hjl⟩ : ∃ jl, jl = ot ++ l9 := ⟨_, rfl⟩; have hjn : jl.length = 85 := (by rw [hjl, List.length_append, HOL.out, HL9.out]); have hj0 : nth jl 0 = 58 := (by rw [hjl, nth_app_zero _ _ (by rw [HOL.out]; decide)]; exact HO0.out); rw [← hjl] at ho5; obtain ⟨AJ, cJ, rfl, -, -, hr5⟩ := ho5.form; rw [hjn]; have HJN := Lib.hid hjn; have HJ0 := Lib.hid hj0; have HJR5 := Lib.hid hr5; have HF5 := Lib.hid (HF3.out.below HBB5.out); have HJ5 := Lib.hid (HJ3.out.below HBB5.out); have HB5 := Lib.hid (HB3.out.trans (HBB5.out.mono HB3.out.size)); clear ho5 hg5 ha5 hjl hjn hj0 hr5)
            obtain ⟨nb5, ob5, hv5, hcall5, -, -⟩ := HF5.out.call
            have HC5 := Lib.hid hcall5
            have HV5 := Lib.hid hv5
            clear hv5 hcall5
            refine (varm_any HV5.out a (by omega) (by omega)).mono ?_
            rintro e x6 ⟨rfl, hva⟩
            have hg6 : x5.grownBy x6 (some gd) := by obtain ⟨_, _, _, _, _, hg⟩ := hva; exact hg
            have HF6 := Lib.hid (HC5.out _ _ hva)
            have HJ6 := Lib.hid (HJ5.out.grown HV5.out hg6)
            have HR6 := Lib.hid (HF5.out.rd (HRB.out.below HB5.out) hg6)
            have HJR6 := Lib.hid (HF5.out.rd HJR5.out hg6)
            clear hva hg6 HC5 HV5
            go_wp2_with fail
            have hrest : Rest { mkD 1000 txt with armed := (a : Int) } 1000 [] := by
              have := mk_rest 1000
              exact ⟨rfl, this.now, this.old, this.floor, fun h => absurd rfl h⟩
            have hgb : GoodB b := by unfold GoodB; rw [HBL.out]; decide
            have hba : (bas []).length + 54 + b.length ≤ 1000 := by rw [bas_nil, HBL.out]; decide
            have HGB := Lib.hid hgb
            have HBA := Lib.hid hba
            have HREST := Lib.hid hrest
            clear hrest hgb hba
            obtain ⟨nb6, ob6, hv6, -, -, hcj6⟩ := HF6.out.call
            have HCJ6 := Lib.hid hcj6
            have HV6 := Lib.hid hv6
            clear hv6 hcj6
            refine (jadd_any HJ6.out HV6.out A1 60 c1 b HBL.out.symm HGB.out HR6.out (by decide) (show 21 ≤ txt.length by decide)).mono ?_
            rintro e x7 ⟨r, rfl, p', n', e', br, hao, hja⟩
            obtain ⟨rfl, -, -, -, hmid⟩ := arm_out (L := []) ⟨rfl, rfl, rfl⟩ a6 HREST.out HBA.out hao
            obtain ⟨hf7, hj7⟩ := HCJ6.out _ _ _ _ _ _ HG5.out hja
            have hrj7 : Rd x7 AJ (jl) := by
              obtain ⟨_, _, _, _, _, _, ht⟩ := hja
              exact rd_two HV6.out HJ6.out ht HJR6.out
            have HF7 := Lib.hid hf7
            have HMID := Lib.hid hmid
            have HRJ7 := Lib.hid hrj7
            clear hao hja hf7 hj7 hrj7 hmid HCJ6 HV6 HF6 HJ6 HR6 HJR6
            go_wp2_with fail
            obtain ⟨nb7, ob7, hv7, hcall7, -, -⟩ := HF7.out.call
            have HC7 := Lib.hid hcall7
            have HV7 := Lib.hid hv7
            clear hv7 hcall7
            refine (vcrash_plain HV7.out 1000 (by decide) AJ 85 cJ (jl) HJN.out.symm HRJ7.out (by rw [← HJN.out.symm]; decide)).mono ?_
            rintro e x8 ⟨rfl, hva⟩
            have HF8 := Lib.hid (HC7.out _ _ hva)
            clear hva HC7 HV7 HF7 HRJ7
            go_wp2_with fail
            have htd := forged_told a6 HGB.out HBL.out HMID.out (junk := jl) (by intro h; have h2 := HJN.out.symm; rw [h] at h2; cases h2) (by rw [HJ0.out]; decide)
            obtain ⟨rr, htd⟩ := htd
            refine (jopen_calm (L := []) (r := rr) (m := 1000) HF8.out ⟨rfl, rfl, rfl⟩ htd HMID.out.most (fun _ => ⟨rfl, rfl⟩)).mono ?_
            rintro e x9 ⟨gj9, v9, rfl, had9, hlo9, -, -, -, -⟩
            obtain ⟨A9', c9', rfl, -⟩ := hlo9.rds
            have hb9 : Below wr.heap.size wr x9 := by
              obtain ⟨p9, q9, -⟩ := had9
              obtain ⟨_, _, _, _, _, _, hb0⟩ := q9
              exact hb0
            have HB9 := Lib.hid hb9
            rw [show ([] : List (List Nat)).length = 0 from rfl]
            clear htd had9 hlo9 hb9 HF8 HMID
            go_wp2_with fail
            go_roundw
            case rel => exact ⟨2, by omega, rfl, HBY.out.trans (HB9.out.mono HBY.out.size)⟩
            case measure => simp [intOf]
        · obtain rfl : i = 2 := by omega
          have i2' : ¬ ((2 : Nat) : Int) < 2 := by omega
          go_wp2_with fail
          go_roundw
          case rel => exact ⟨a + 1, by omega, by go_num, HBQ.out⟩
          case measure => simp [intOf]; omega
    · obtain rfl : a = 6 := by omega
      have a6' : ¬ ((6 : Nat) : Int) < 6 := by omega
      go_wp2_with fail
      refine (jbegun_any 1000 (by omega) (by omega) wr).mono ?_
      rintro e x3 ⟨gf, gd, gj, rfl, hf, hj, hgj⟩
      have hb3 : Below wr.heap.size wr x3 := by obtain ⟨_, _, _, _, _, _, hb0⟩ := hf; exact hb0
      have hgb : GoodB b := by unfold GoodB; rw [HBL.out]; decide
      have HGB := Lib.hid hgb
      have hrb := HRB.out.below (HB.out.trans (hb3.mono HB.out.size))
      have HRB3 := Lib.hid hrb
      have had3 : Added wr.heap.size wr x3 gf gd gj none [] 1000 [] := ⟨_, hf, hj, mk_rest 1000, mk_calm 1000 txt⟩
      have HAD3 := Lib.hid had3
      have HG5 := Lib.hid hgj
      clear hf hj hgj hb3 hgb hrb had3
      go_wp2_with fail
      refine (jadd_calm HAD3.out HG5.out (by decide) A1 60 c1 b HBL.out.symm HGB.out HRB3.out (by rw [bas_nil, HBL.out]; decide)).mono ?_
      rintro e x4 ⟨rfl, had4, -, -⟩
      rw [List.nil_append] at had4
      have HAD4 := Lib.hid had4
      clear had4 HAD3
      go_wp2_with fail
      go_loopw [22] (fun v22 wq => ∃ k : Nat, 1 ≤ k ∧ k ≤ 26 ∧ v22 = .int .i64 k ∧ Below x4.heap.size x4 wq) (fun v _ => 26 - (intOf v).toNat)
      case atStart => exact ⟨1, by omega, by omega, rfl, Below.refl _ _⟩
      case round =>
        obtain ⟨k, hk1, hk, rfl, hb⟩ := hrel
        have HBQ := Lib.hid hb
        clear hb
        obtain ⟨p5, hf5, hj5, hr5, hc5⟩ := HAD4.out.below HBQ.out
        have hn5 : p5.now = bas [b] := by rw [hr5.now, List.append_nil]
        have hl135 : (bas [b]).length = 135 := by rw [bas_one_len, HBL.out]
        have HF5 := Lib.hid hf5
        have HN5 := Lib.hid hn5
        have HR5 := Lib.hid hr5
        have HC5 := Lib.hid hc5
        have HL135 := Lib.hid hl135
        clear hf5 hj5 hn5 hr5 hc5 hl135
        by_cases k26 : k ≤ 25
        · have k26' : (k : Int) ≤ 25 := by omega
          go_wp2_with fail
          refine (vimage_ow HF5.out).mono ?_
          rw [HN5.out]
          rintro e y1 ⟨vi, rfl, hoi, hbi⟩
          obtain ⟨g, ci, rfl, -, hgi, hgl, hci, hfi⟩ := hoi.form0 (by intro h; have := HL135.out; rw [h] at this; cases this)
          obtain ⟨q, hq⟩ : ∃ q, q = 135 - k := ⟨_, rfl⟩
          have hqi : IntKind.i64.wrap ((135 : Int) - k) = (q : Int) := by rw [IntKind.wrap_i64]; omega
          have hq135 : (q : Int) < 135 := by omega
          obtain ⟨x, hx⟩ : ∃ x, x = nth (bas [b]) q := ⟨_, rfl⟩
          have hx256 : x < 256 := by rw [hx]; exact nth_lt hoi.1 q
          have hcq := hci q (by rw [HL135.out]; omega)
          rw [← hx] at hcq
          have hfq := hfi q
          have hxr : bits .xor .u8 (x : Int) 4 = ((x ^^^ 4 : Nat) : Int) := u8_xor4 x hx256
          have hx4 : x ^^^ 4 < 256 := Nat.xor_lt_two_pow (n := 8) hx256 (by decide)
          rw [HL135.out] at hoi ⊢
          have HOI := Lib.hid hoi
          have HBI := Lib.hid hbi
          have HX := Lib.hid hx
          have HQ := Lib.hid hq
          have HGI := Lib.hid hgi
          clear hoi hbi hx hq hci hfi
          go_wp2_with fail
          have hos := Ow.set HOI.out (i := q) (by rw [HL135.out]; omega) hx4
          obtain ⟨D, hD⟩ : ∃ D, D = (bas [b]).set q (x ^^^ 4) := ⟨_, rfl⟩
          rw [← hD] at hos
          have hDl : D.length = 135 := by rw [hD, List.length_set, HL135.out]
          have htd : ∃ r, Told D [] r := flip_told HGB.out HBL.out hk1 k26 (by rw [hD, HQ.out]) (by rw [← HQ.out, ← HX.out]; exact xor4_ne x)
          have hbs : Below wr.heap.size wr (y1.setCell ⟨g, q, none⟩ (.int .u8 ((x ^^^ 4 : Nat) : Int))) := HBI.out.setCell hgi _
          have hrs := Ow.rdW hos
          generalize y1.setCell ⟨g, q, none⟩ (.int .u8 ((x ^^^ 4 : Nat) : Int)) = y2 at *
          have HTD := Lib.hid htd
          have HBS := Lib.hid hbs
          have HRS := Lib.hid hrs
          have HDL := Lib.hid hDl
          clear hos hD htd hbs hrs hDl hcq hfq hxr hx4 hgl HOI HBI
          refine (load_n 1000 (some ⟨g, 0, none⟩) 135 ci D y2 HDL.out.symm (by decide) (by rw [HDL.out]; decide) HRS.out).mono ?_
          rintro e y3 ⟨g3, nb3, ob3, rfl, hd3, hg3, hnb3, hob3, hb3⟩
          have D3 := Lib.hid hd3
          have B3 := Lib.hid (HBS.out.trans (hb3.mono HBS.out.size))
          have G3 := Lib.hid (And.intro (Nat.le_trans HBS.out.size hg3) (And.intro (fun k e => Nat.le_trans HBS.out.size (hnb3 k e)) (fun k e => Nat.le_trans HBS.out.size (hob3 k e))))
          clear hd3 hg3 hnb3 hob3 hb3
          go_wp2_with fail
          refine (open_plain D3.out none 0).mono ?_
          rintro e y4 ⟨gf4, rfl, hf4, -, hb4⟩
          have hff : Ff wr.heap.size wr y4 gf4 g3 none [] (mkD 1000 D) := ⟨nb3, ob3, fv_plain hf4 (Nat.le_refl _), G3.out.1, G3.out.2.1, G3.out.2.2, B3.out.trans (hb4.mono B3.out.size)⟩
          have HFF := Lib.hid hff
          clear hf4 hb4 hff D3 B3 G3
          go_wp2_with fail
          obtain ⟨rr, htd⟩ := HTD.out
          refine (jopen_calm (L := []) (r := rr) (m := 1000) HFF.out (mk_calm 1000 D) htd rfl (fun _ => ⟨rfl, rfl⟩)).mono ?_
          rintro e y9 ⟨gj9, v9, rfl, had9, hlo9, -, -, -, -⟩
          obtain ⟨A9', c9', rfl, -⟩ := hlo9.rds
          have hb9 : Below wr.heap.size wr y9 := by
            obtain ⟨p9, q9, -⟩ := had9
            obtain ⟨_, _, _, _, _, _, hb0⟩ := q9
            exact hb0
          have HB9 := Lib.hid hb9
          rw [show ([] : List (List Nat)).length = 0 from rfl]
          clear htd had9 hlo9 hb9 HFF
          go_wp2_with fail
          go_roundw
          case rel => exact ⟨k + 1, by omega, by omega, by go_num, HBQ.out.trans (HB9.out.mono HBQ.out.size)⟩
          case measure => simp [intOf]; omega
        · obtain rfl : k = 26 := by omega
          have k26' : ¬ ((26 : Nat) : Int) ≤ 25 := by omega
          go_wp2_with fail
          refine (jopen_calm (L := [b]) (r := []) (m := 1000) HF5.out HC5.out (by rw [HN5.out]; exact told_bas (fun x hx => by rw [List.mem_singleton.1 hx]; exact HGB.out)) HR5.out.most (fun _ => ⟨by rw [HN5.out, HR5.out.old, List.append_nil], by rw [HN5.out, HR5.out.floor]; rfl⟩)).mono ?_
          rintro e y9 ⟨gj9, v9, rfl, had9, hlo9, -, -, -, -⟩
          obtain ⟨A9', c9', rfl, -⟩ := hlo9.rds
          rw [show ([b] : List (List Nat)).length = 1 from rfl]
          have HAD9 := Lib.hid had9
          clear had9 hlo9
          go_wp2_with fail
          go_ret
          obtain ⟨p9, q9, -⟩ := HAD9.out
          obtain ⟨_, _, _, _, _, _, hb0⟩ := q9
          exact ⟨rfl, HBZ.out.trans ((HB.out.trans (hb0.mono HB.out.size)).mono HBZ.out.size)⟩
end Go.Proofs.YtlhbijpmhokmnaaGreat
