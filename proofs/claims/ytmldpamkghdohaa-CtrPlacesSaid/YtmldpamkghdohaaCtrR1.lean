/-
  THE WALK OF quillpressref06.Stream. Conditions: the key and the nonce read as lists; few bytes are asked.
-/
import Derived.Test.YtmldpamkghdohaaCtrW3
import Derived.Test.YtmldpamkghdohaaRefB
import Derived.Test.YtmldpamkghdohaaRefD
namespace Go.Proofs.Ytmldpamkghdohaa
open Go.RowKit
set_option linter.unusedSimpArgs false
set_option linter.unusedVariables false

theorem Wo.wd_ctr {w : World} {base : Nat} {v : Value} {l : List Nat} (h : Wo w base v l 60) : Wd w v (nth l) 60 := by
  obtain ⟨g, c, rfl, hc, h1, h2, h3⟩ := h.form (by omega)
  exact ⟨g, c, rfl, h2, fun i hi => by obtain ⟨gi, oi, ci, k1, k2, k3⟩ := h3 i hi; exact ⟨gi, oi, ci, k1, k2, k3⟩⟩

set_option maxRecDepth 100000 in
set_option maxHeartbeats 4000000 in
theorem rstream_no (K : Option Addr) (kc : Nat) (A : Option Addr) (nl c : Nat) (a n : Int) (w : World) (hno : ¬ CtrOk nl a n) :
    Calls Try.prog 14 #[.slice K 32 kc, .slice A nl c, .int .i64 a, .int .i64 n] w fun e w' => e = .returned (.tuple #[.slice none 0 0, .int .i64 2]) ∧ w = w' := by
  by_cases h1 : nl = 8
  · have q1 : ((nl : Int) != 8) = false := by rw [h1]; rfl
    by_cases h2 : a < 0
    · clear hno
      go_enter Try.func14, Try.ntmps14
      go_wp2_with fail
      go_ret2
      exact ⟨rfl, rfl⟩
    · by_cases h3 : 1099511627776 < a
      · clear hno
        go_enter Try.func14, Try.ntmps14
        go_wp2_with fail
        go_ret2
        exact ⟨rfl, rfl⟩
      · by_cases h4 : n < 0
        · clear hno
          go_enter Try.func14, Try.ntmps14
          go_wp2_with fail
          go_ret2
          exact ⟨rfl, rfl⟩
        · have h5 : 4194304 < n := by
            apply Classical.byContradiction
            intro h5
            exact hno ⟨h1, by omega, by omega, by omega, by omega⟩
          clear hno
          go_enter Try.func14, Try.ntmps14
          go_wp2_with fail
          go_ret2
          exact ⟨rfl, rfl⟩
  · have q1 : ((nl : Int) != 8) = true := by rw [bne_iff_ne]; omega
    clear hno
    go_enter Try.func14, Try.ntmps14
    go_wp2_with fail
    go_ret2
    exact ⟨rfl, rfl⟩

theorem strm_snoc (kb : Nat → Nat) (nonce : List Nat) (a k : Nat) : strm kb nonce a (k + 1) = strm kb nonce a k ++ [nth (ctrB kb nonce ((a + k) / 16)) ((a + k) % 16)] := range_snoc _ k
set_option maxRecDepth 100000 in
set_option maxHeartbeats 40000000 in
theorem rstream_any (K : Option Addr) (kc : Nat) (A : Option Addr) (c : Nat) (key nonce : List Nat) (a n : Nat) (w : World) (ha : a ≤ 1099511627776) (hn : n ≤ 4194304) (hkl : key.length = 32) (hkc : 32 ≤ kc) (hK : Rd w K key) (hl : nonce.length = 8) (hr : Rd w A nonce) :
    Calls Try.prog 14 #[.slice K 32 kc, .slice A 8 c, .int .i64 a, .int .i64 n] w fun e w' => ∃ v, e = .returned (.tuple #[v, .int .i64 0]) ∧ Ow w' w.heap.size v (strm (nth (ks key)) nonce a n) ∧ Below w.heap.size w w' := by
  obtain ⟨gk, ok, rfl, hgk, hck⟩ := hK.2 (by rintro rfl; simp at hkl)
  rw [hkl] at hck
  have hkb : ∀ i, i < 240 → nth (ks key) i < 256 := fun i _ => nth_lt (ks_lt hK.1) i
  have HKL := Lib.hid hkl
  have HCK := Lib.hid hck
  have HK1 := Lib.hid hK.1
  have HKB := Lib.hid hkb
  have HR := Lib.hid hr
  have q1 : ((a : Int) < 0) = False := by simp
  have q2 : ((1099511627776 : Int) < (a : Int)) = False := by rw [eq_iff_iff]; exact ⟨fun h => by omega, False.elim⟩
  have q3 : ((n : Int) < 0) = False := by simp
  have q4 : ((4194304 : Int) < (n : Int)) = False := by rw [eq_iff_iff]; exact ⟨fun h => by omega, False.elim⟩
  clear hkl hck hkb hK hr
  go_enter Try.func14, Try.ntmps14
  go_wp2_with fail
  refine (table_any _).mono ?_
  rintro e w1 ⟨v1, rfl, ho1, hb1⟩
  obtain ⟨gt, ct, rfl, -, -, hgt, hcell, -⟩ := ho1.form0 (by intro e; have := congrArg List.length e; simp [subL] at this)
  rw [show subL.length = 256 by simp [subL]] at *
  have hcell1 : ∀ i, i < 256 → w1.cell? ⟨gt, i, none⟩ = some (.int .u8 (sb i : Nat)) := by
    intro i hi
    rw [hcell i hi]
    simp [nth, subL, hi]
  have HT := Lib.hid hcell1
  have HB1 := Lib.hid hb1
  clear ho1 hb1 hcell hcell1
  go_wp2_with fail
  refine (words_any gk ok kc gt ct key w1 HKL.out HK1.out hkc (fun i hi => (HB1.out.cell hgk).trans (HCK.out i hi)) (Nat.lt_of_lt_of_le hgk HB1.out.size) HT.out hgt).mono ?_
  rintro e w2 ⟨v2, rfl, ho2, hb2⟩
  have hwd := ho2.wd_ctr
  have hb02 : Below w.heap.size w w2 := HB1.out.trans (hb2.mono HB1.out.size)
  have hgt2 : gt < w2.heap.size := Nat.lt_of_lt_of_le hgt hb2.size
  have htt : ∀ i, i < 256 → w2.cell? ⟨gt, i, none⟩ = some (.int .u8 (sb i : Nat)) := fun i hi => (hb2.cell hgt).trans (HT.out i hi)
  have HWD := Lib.hid hwd
  have HB2 := Lib.hid hb02
  have HTT := Lib.hid htt
  have HRD := Lib.hid (HR.out.below hb02)
  clear hwd hb02 htt ho2 hb2 HT HB1 hgt HCK HR hgk q1 q2 q3 q4 hkc
  go_wp2_with fail
  go_loopw [12, 13, 14] (fun v b i wr => ∃ k : Nat, k ≤ n ∧ i = .int .i64 (a + k : Nat) ∧ Ow wr w2.heap.size v (strm (nth (ks key)) nonce a k) ∧ Below w2.heap.size w2 wr ∧
    (k = 0 ∨ ∃ gB cB, b = .slice (some ⟨gB, 0, none⟩) 16 cB ∧ Rd wr (some ⟨gB, 0, none⟩) (ctrB (nth (ks key)) nonce ((a + k - 1) / 16)) ∧ v.ownBlock ≠ some gB)) (fun _ _ i _ => a + n - (intOf i).toNat)
  case atStart => exact ⟨0, by omega, rfl, Ow.nil _ _, Below.refl _ _, .inl rfl⟩
  case round =>
    obtain ⟨k, hk, rfl, ho, hb, hblk⟩ := hrel
    obtain ⟨x, hx⟩ : ∃ x, x = a + k := ⟨_, rfl⟩
    rw [← hx] at hblk ⊢
    obtain ⟨A1, c1, rfl, hc1, hA1, -⟩ := ho.form
    rw [strm_length] at ho hc1 hblk ⊢
    have HO := Lib.hid ho
    have HB := Lib.hid hb
    have HBLK := Lib.hid hblk
    have HX := Lib.hid hx
    clear ho hb hblk hx
    by_cases e0 : k < n
    · have t3 : ((x : Int) < (a : Int) + n) := by have := HX.out; omega
      by_cases k0 : k = 0
      · have t1 : ((x : Int) == (a : Int)) = true := by have := HX.out; rw [beq_iff_eq]; omega
        clear HBLK k0
        obtain ⟨wo, hwo⟩ : ∃ wo, wo = wr := ⟨_, rfl⟩
        subst hwo
        go_wp2_with (at_builtin; refine append_bytes (v := .slice none 0 0) (.tmp 61) (.tmp 62) rfl rfl rfl (Ow.nil wo wo.heap.size) A 8 c nonce rfl hl.symm (HRD.out.below HB.out) (by simp [hl]) (Nat.le_refl _) ?_; intro v3 w3 ho3 hg3 ha3)
        rw [List.nil_append] at ho3
        have hb3 : Below wo.heap.size wo w3 := below_of_append (Below.refl _ _) (Ow.nil wo wo.heap.size) hg3 (Nat.le_refl _) (Nat.le_refl _)
        have HO3 := Lib.hid ho3
        have HB3 := Lib.hid hb3
        clear ho3 hg3 ha3 hb3
        go_loopw [15, 16] (fun v i wx => ∃ j : Nat, j ≤ 8 ∧ i = .int .i64 (7 - (j : Int)) ∧ Ow wx wo.heap.size v (nonce ++ beN (x / 16) j) ∧ Below wo.heap.size wo wx) (fun _ i _ => (intOf i + 1).toNat)
        case atStart => exact ⟨0, by omega, rfl, by simpa [beN] using HO3.out, HB3.out⟩
        case round =>
          clear HO3 HB3
          obtain ⟨j, hj, rfl, hoj, hbj⟩ := hrel
          have HOJ := Lib.hid hoj
          have HBJ := Lib.hid hbj
          clear hoj hbj
          by_cases ej : j < 8
          · have hlen : (nonce ++ beN (x / 16) j).length + 1 ≤ 140737488355328 := by rw [List.length_append, beN_length, hl]; omega
            obtain ⟨b, hbv⟩ : ∃ b, b = x / 16 / 2 ^ (56 - 8 * j) % 256 := ⟨_, rfl⟩
            have hb8 : b < 256 := by rw [hbv]; exact Nat.mod_lt _ (by omega)
            have hsn := beN_snoc (x / 16) j
            rw [← hbv] at hsn
            obtain ⟨j', hj'⟩ : ∃ j', j' = j + 1 := ⟨_, rfl⟩
            rw [← hj'] at hsn
            have HBV := Lib.hid hbv
            have HJ := Lib.hid hj'
            have HSN := Lib.hid hsn
            clear hbv hj' hsn
            have hcase : j = 0 ∨ j = 1 ∨ j = 2 ∨ j = 3 ∨ j = 4 ∨ j = 5 ∨ j = 6 ∨ j = 7 := by omega
            rcases hcase with rfl | rfl | rfl | rfl | rfl | rfl | rfl | rfl
            all_goals
              go_wp2_with (at_builtin; refine append_new (.tmp 68) (.tmp 76) rfl rfl _ _ _ b rfl rfl HOJ.out (by have h := HBV.out; simp only [Nat.reduceSub, Nat.reduceMul, Nat.reducePow] at h; omega) hb8 hlen HBJ.out.size ?_; intro v1 w1 ho1 hg1 ha1)
              rw [List.append_assoc, ← HSN.out] at ho1
              refine ⟨⟨j', by rw [HJ.out]; omega, by rw [HJ.out]; rfl, ho1, below_of_append HBJ.out HOJ.out hg1 HBJ.out.size (Nat.le_refl _)⟩, ?_⟩
              simp [intOf]
          · obtain rfl : j = 8 := by omega
            have hln : (nonce ++ beN (x / 16) 8).length = 16 := by rw [List.length_append, beN_length, hl]
            obtain ⟨gi, ci, rfl, hci, hgi, hgi2, hcell, -⟩ := HOJ.out.form0 (by intro e; rw [e] at hln; simp at hln)
            rw [hln] at hcell hci ⊢
            have h2r : w2.heap.size ≤ wr.heap.size := Nat.le_trans HB.out.size HBJ.out.size
            have HB2r : Hid (Below w2.heap.size w2 wr) := HB.out.trans (HBJ.out.mono HB.out.size)
            have HCELL := Lib.hid hcell
            have HL16 := Lib.hid HOJ.out.1
            clear hcell
            go_wp2_with fail
            refine (with_any gt ct gi 0 ci v2 (nth (ks key)) (nth (nonce ++ beN (x / 16) 8)) wr (fun i hi => (HB2r.out.cell hgt2).trans (HTT.out i hi)) (Nat.lt_of_lt_of_le hgt2 h2r) (fun i hi => by rw [Nat.zero_add]; exact HCELL.out i hi) hgi2 (fun i _ => nth_lt HL16.out i) HKB.out (HWD.out.below HB2r.out)).mono ?_
            rintro e w4 ⟨v4, rfl, ho4, hb4⟩
            have hlB : ((List.range 16).map (encN (nth (ks key)) (nth (nonce ++ beN (x / 16) 8)) 14)).length = 16 := by simp
            have hrb := ho4.form
            obtain ⟨gB, cB, rfl, hcB, hgB, hgB2, -, -⟩ := ho4.form0 (by intro e; rw [e] at hlB; simp at hlB)
            obtain ⟨A4, c4, e4, -, -, hrb4⟩ := ho4.form
            injection e4 with e4 _ _
            subst e4
            rw [hlB]
            have HRB : Hid (Rd w4 (some ⟨gB, 0, none⟩) (ctrB (nth (ks key)) nonce (x / 16))) := hrb4
            have HO4 : Hid (Ow w4 w2.heap.size (.slice A1 k c1) (strm (nth (ks key)) nonce a k)) := ((HO.out.below HBJ.out).below hb4)
            have HB4 : Hid (Below w2.heap.size w2 w4) := HB2r.out.trans (hb4.mono h2r)
            have HNE : Hid ((Value.slice A1 k c1).ownBlock ≠ some gB) := by
              intro e
              have := (HO.out.lt _ e).2
              have := HBJ.out.size
              omega
            clear ho4 hb4 hrb hrb4 HOJ HBJ HCELL HL16 HB2r hlB hln
            have hblt := HRB.out.2 (by intro e; have := congrArg List.length e; rw [ctrB_length] at this; simp at this)
            obtain ⟨gB', oB', eB, hBs, hBc⟩ := hblt
            injection eB with eB
            injection eB with eB eB2
            subst eB; subst eB2
            rw [ctrB_length] at hBc
            have m3 : x % 16 < 16 := Nat.mod_lt _ (by omega)
            have hBq := hBc (x % 16) m3
            rw [Nat.zero_add] at hBq
            have m0 : (0 : Int) ≤ (x : Int) % 16 := by omega
            have m1 : (x : Int) % 16 < 16 := by omega
            have m2 : ((x : Int) % 16).toNat = x % 16 := by omega
            have hlt8 := nth_lt HRB.out.1 (x % 16)
            have hsn := strm_snoc (nth (ks key)) nonce a k
            rw [← HX.out] at hsn
            generalize nth (ctrB (nth (ks key)) nonce (x / 16)) (x % 16) = y at *
            have HSN := Lib.hid hsn
            clear hBc hsn
            go_wp2_with (at_builtin; refine append_new (.tmp 82) (.tmp 88) rfl rfl _ _ _ y rfl rfl HO4.out rfl hlt8 (by rw [strm_length]; omega) HB4.out.size ?_; intro v5 w5 ho5 hg5 ha5; have hg5 : w4.grownBy w5 (Value.slice A1 k c1).ownBlock := hg5; have ha5 : v5.ownBlock = (Value.slice A1 k c1).ownBlock ∨ w4.heap.size < w5.heap.size ∧ v5.ownBlock = some (w4.heap.size + 1) := ha5; rw [← HSN.out] at ho5)
            refine ⟨⟨k + 1, by omega, by rw [HX.out]; go_num, ho5, below_of_append HB4.out HO4.out hg5 HB4.out.size (Nat.le_refl _), .inr ⟨gB, _, rfl, ?_, ?_⟩⟩, ?_⟩
            · rw [show a + (k + 1) - 1 = x by rw [HX.out]; omega]
              exact HRB.out.grown hg5 (by intro z hz; injection hz with hz; subst hz; exact fun e => HNE.out e.symm)
            · rcases ha5 with e | ⟨_, e⟩
              · rw [e]; exact HNE.out
              · rw [e]; intro e2; injection e2 with e2; omega
            · have := HX.out
              simp [intOf]
              omega
      · have t1 : ((x : Int) == (a : Int)) = false := by have := HX.out; rw [beq_eq_false_iff_ne]; omega
        by_cases k1 : x % 16 = 0
        · have t2 : ((x : Int) % 16 == 0) = true := by rw [beq_iff_eq]; omega
          clear HBLK k1
          obtain ⟨wo, hwo⟩ : ∃ wo, wo = wr := ⟨_, rfl⟩
          subst hwo
          go_wp2_with (at_builtin; refine append_bytes (v := .slice none 0 0) (.tmp 61) (.tmp 62) rfl rfl rfl (Ow.nil wo wo.heap.size) A 8 c nonce rfl hl.symm (HRD.out.below HB.out) (by simp [hl]) (Nat.le_refl _) ?_; intro v3 w3 ho3 hg3 ha3)
          rw [List.nil_append] at ho3
          have hb3 : Below wo.heap.size wo w3 := below_of_append (Below.refl _ _) (Ow.nil wo wo.heap.size) hg3 (Nat.le_refl _) (Nat.le_refl _)
          have HO3 := Lib.hid ho3
          have HB3 := Lib.hid hb3
          clear ho3 hg3 ha3 hb3
          go_loopw [15, 16] (fun v i wx => ∃ j : Nat, j ≤ 8 ∧ i = .int .i64 (7 - (j : Int)) ∧ Ow wx wo.heap.size v (nonce ++ beN (x / 16) j) ∧ Below wo.heap.size wo wx) (fun _ i _ => (intOf i + 1).toNat)
          case atStart => exact ⟨0, by omega, rfl, by simpa [beN] using HO3.out, HB3.out⟩
          case round =>
            clear HO3 HB3
            obtain ⟨j, hj, rfl, hoj, hbj⟩ := hrel
            have HOJ := Lib.hid hoj
            have HBJ := Lib.hid hbj
            clear hoj hbj
            by_cases ej : j < 8
            · have hlen : (nonce ++ beN (x / 16) j).length + 1 ≤ 140737488355328 := by rw [List.length_append, beN_length, hl]; omega
              obtain ⟨b, hbv⟩ : ∃ b, b = x / 16 / 2 ^ (56 - 8 * j) % 256 := ⟨_, rfl⟩
              have hb8 : b < 256 := by rw [hbv]; exact Nat.mod_lt _ (by omega)
              have hsn := beN_snoc (x / 16) j
              rw [← hbv] at hsn
              obtain ⟨j', hj'⟩ : ∃ j', j' = j + 1 := ⟨_, rfl⟩
              rw [← hj'] at hsn
              have HBV := Lib.hid hbv
              have HJ := Lib.hid hj'
              have HSN := Lib.hid hsn
              clear hbv hj' hsn
              have hcase : j = 0 ∨ j = 1 ∨ j = 2 ∨ j = 3 ∨ j = 4 ∨ j = 5 ∨ j = 6 ∨ j = 7 := by omega
              rcases hcase with rfl | rfl | rfl | rfl | rfl | rfl | rfl | rfl
              all_goals
                go_wp2_with (at_builtin; refine append_new (.tmp 68) (.tmp 76) rfl rfl _ _ _ b rfl rfl HOJ.out (by have h := HBV.out; simp only [Nat.reduceSub, Nat.reduceMul, Nat.reducePow] at h; omega) hb8 hlen HBJ.out.size ?_; intro v1 w1 ho1 hg1 ha1)
                rw [List.append_assoc, ← HSN.out] at ho1
                refine ⟨⟨j', by rw [HJ.out]; omega, by rw [HJ.out]; rfl, ho1, below_of_append HBJ.out HOJ.out hg1 HBJ.out.size (Nat.le_refl _)⟩, ?_⟩
                simp [intOf]
            · obtain rfl : j = 8 := by omega
              have hln : (nonce ++ beN (x / 16) 8).length = 16 := by rw [List.length_append, beN_length, hl]
              obtain ⟨gi, ci, rfl, hci, hgi, hgi2, hcell, -⟩ := HOJ.out.form0 (by intro e; rw [e] at hln; simp at hln)
              rw [hln] at hcell hci ⊢
              have h2r : w2.heap.size ≤ wr.heap.size := Nat.le_trans HB.out.size HBJ.out.size
              have HB2r : Hid (Below w2.heap.size w2 wr) := HB.out.trans (HBJ.out.mono HB.out.size)
              have HCELL := Lib.hid hcell
              have HL16 := Lib.hid HOJ.out.1
              clear hcell
              go_wp2_with fail
              refine (with_any gt ct gi 0 ci v2 (nth (ks key)) (nth (nonce ++ beN (x / 16) 8)) wr (fun i hi => (HB2r.out.cell hgt2).trans (HTT.out i hi)) (Nat.lt_of_lt_of_le hgt2 h2r) (fun i hi => by rw [Nat.zero_add]; exact HCELL.out i hi) hgi2 (fun i _ => nth_lt HL16.out i) HKB.out (HWD.out.below HB2r.out)).mono ?_
              rintro e w4 ⟨v4, rfl, ho4, hb4⟩
              have hlB : ((List.range 16).map (encN (nth (ks key)) (nth (nonce ++ beN (x / 16) 8)) 14)).length = 16 := by simp
              have hrb := ho4.form
              obtain ⟨gB, cB, rfl, hcB, hgB, hgB2, -, -⟩ := ho4.form0 (by intro e; rw [e] at hlB; simp at hlB)
              obtain ⟨A4, c4, e4, -, -, hrb4⟩ := ho4.form
              injection e4 with e4 _ _
              subst e4
              rw [hlB]
              have HRB : Hid (Rd w4 (some ⟨gB, 0, none⟩) (ctrB (nth (ks key)) nonce (x / 16))) := hrb4
              have HO4 : Hid (Ow w4 w2.heap.size (.slice A1 k c1) (strm (nth (ks key)) nonce a k)) := ((HO.out.below HBJ.out).below hb4)
              have HB4 : Hid (Below w2.heap.size w2 w4) := HB2r.out.trans (hb4.mono h2r)
              have HNE : Hid ((Value.slice A1 k c1).ownBlock ≠ some gB) := by
                intro e
                have := (HO.out.lt _ e).2
                have := HBJ.out.size
                omega
              clear ho4 hb4 hrb hrb4 HOJ HBJ HCELL HL16 HB2r hlB hln
              have hblt := HRB.out.2 (by intro e; have := congrArg List.length e; rw [ctrB_length] at this; simp at this)
              obtain ⟨gB', oB', eB, hBs, hBc⟩ := hblt
              injection eB with eB
              injection eB with eB eB2
              subst eB; subst eB2
              rw [ctrB_length] at hBc
              have m3 : x % 16 < 16 := Nat.mod_lt _ (by omega)
              have hBq := hBc (x % 16) m3
              rw [Nat.zero_add] at hBq
              have m0 : (0 : Int) ≤ (x : Int) % 16 := by omega
              have m1 : (x : Int) % 16 < 16 := by omega
              have m2 : ((x : Int) % 16).toNat = x % 16 := by omega
              have hlt8 := nth_lt HRB.out.1 (x % 16)
              have hsn := strm_snoc (nth (ks key)) nonce a k
              rw [← HX.out] at hsn
              generalize nth (ctrB (nth (ks key)) nonce (x / 16)) (x % 16) = y at *
              have HSN := Lib.hid hsn
              clear hBc hsn
              go_wp2_with (at_builtin; refine append_new (.tmp 82) (.tmp 88) rfl rfl _ _ _ y rfl rfl HO4.out rfl hlt8 (by rw [strm_length]; omega) HB4.out.size ?_; intro v5 w5 ho5 hg5 ha5; have hg5 : w4.grownBy w5 (Value.slice A1 k c1).ownBlock := hg5; have ha5 : v5.ownBlock = (Value.slice A1 k c1).ownBlock ∨ w4.heap.size < w5.heap.size ∧ v5.ownBlock = some (w4.heap.size + 1) := ha5; rw [← HSN.out] at ho5)
              refine ⟨⟨k + 1, by omega, by rw [HX.out]; go_num, ho5, below_of_append HB4.out HO4.out hg5 HB4.out.size (Nat.le_refl _), .inr ⟨gB, _, rfl, ?_, ?_⟩⟩, ?_⟩
              · rw [show a + (k + 1) - 1 = x by rw [HX.out]; omega]
                exact HRB.out.grown hg5 (by intro z hz; injection hz with hz; subst hz; exact fun e => HNE.out e.symm)
              · rcases ha5 with e | ⟨_, e⟩
                · rw [e]; exact HNE.out
                · rw [e]; intro e2; injection e2 with e2; omega
              · have := HX.out
                simp [intOf]
                omega
        · have t2 : ((x : Int) % 16 == 0) = false := by rw [beq_eq_false_iff_ne]; omega
          obtain ⟨gB, cB, rfl, hrb, hne⟩ := HBLK.out.resolve_left k0
          have HRB : Hid (Rd wr (some ⟨gB, 0, none⟩) (ctrB (nth (ks key)) nonce (x / 16))) := by
            have h1 : (x - 1) / 16 = x / 16 := by omega
            rw [h1] at hrb
            exact hrb
          have HNE := Lib.hid hne
          obtain ⟨w4, hw4⟩ : ∃ w4, w4 = wr := ⟨_, rfl⟩
          subst hw4
          have HO4 := Lib.hid HO.out
          have HB4 := Lib.hid HB.out
          clear hrb hne HBLK
          have hblt := HRB.out.2 (by intro e; have := congrArg List.length e; rw [ctrB_length] at this; simp at this)
          obtain ⟨gB', oB', eB, hBs, hBc⟩ := hblt
          injection eB with eB
          injection eB with eB eB2
          subst eB; subst eB2
          rw [ctrB_length] at hBc
          have m3 : x % 16 < 16 := Nat.mod_lt _ (by omega)
          have hBq := hBc (x % 16) m3
          rw [Nat.zero_add] at hBq
          have m0 : (0 : Int) ≤ (x : Int) % 16 := by omega
          have m1 : (x : Int) % 16 < 16 := by omega
          have m2 : ((x : Int) % 16).toNat = x % 16 := by omega
          have hlt8 := nth_lt HRB.out.1 (x % 16)
          have hsn := strm_snoc (nth (ks key)) nonce a k
          rw [← HX.out] at hsn
          generalize nth (ctrB (nth (ks key)) nonce (x / 16)) (x % 16) = y at *
          have HSN := Lib.hid hsn
          clear hBc hsn
          go_wp2_with (at_builtin; refine append_new (.tmp 82) (.tmp 88) rfl rfl _ _ _ y rfl rfl HO4.out rfl hlt8 (by rw [strm_length]; omega) HB4.out.size ?_; intro v5 w5 ho5 hg5 ha5; have hg5 : w4.grownBy w5 (Value.slice A1 k c1).ownBlock := hg5; have ha5 : v5.ownBlock = (Value.slice A1 k c1).ownBlock ∨ w4.heap.size < w5.heap.size ∧ v5.ownBlock = some (w4.heap.size + 1) := ha5; rw [← HSN.out] at ho5)
          refine ⟨⟨k + 1, by omega, by rw [HX.out]; go_num, ho5, below_of_append HB4.out HO4.out hg5 HB4.out.size (Nat.le_refl _), .inr ⟨gB, _, rfl, ?_, ?_⟩⟩, ?_⟩
          · rw [show a + (k + 1) - 1 = x by rw [HX.out]; omega]
            exact HRB.out.grown hg5 (by intro z hz; injection hz with hz; subst hz; exact fun e => HNE.out e.symm)
          · rcases ha5 with e | ⟨_, e⟩
            · rw [e]; exact HNE.out
            · rw [e]; intro e2; injection e2 with e2; omega
          · have := HX.out
            simp [intOf]
            omega
    · obtain rfl : k = n := by omega
      have t3 : ¬ ((x : Int) < (a : Int) + k) := by have := HX.out; omega
      go_wp2_with fail
      go_ret2
      exact ⟨_, rfl, HO.out.mono HB2.out.size, HB2.out.trans (HB.out.mono HB2.out.size)⟩
end Go.Proofs.Ytmldpamkghdohaa
