/-
  THE WALK OF aes.New. Conditions: the slice reads as a list of bytes.
-/
import Derived.Test.YtlhbijpmhokmnaaGreatQ22
namespace Go.Proofs.YtlhbijpmhokmnaaGreat
open Go.RowKit
set_option linter.unusedSimpArgs false
set_option linter.unusedVariables false

theorem new_len (A : Option Addr) (n c : Nat) (w : World) (hn : n ≠ 32) : Calls Tryz.prog 65 #[.slice A n c] w fun e w' => e = .returned (.tuple #[.pointer none, .int .i64 2]) ∧ w = w' := by
  have hn2 : ((n : Int) != 32) = true := by rw [bne_iff_ne]; omega
  go_enter Tryz.func65, Tryz.ntmps65
  go_wp2
  go_ret2
  exact ⟨rfl, rfl⟩

set_option maxRecDepth 100000 in
set_option maxHeartbeats 4000000 in
theorem new_any (A : Option Addr) (c : Nat) (key : List Nat) (w : World) (hk : key.length = 32) (hr : Rd w A key) : Calls Tryz.prog 65 #[.slice A 32 c] w fun e w' =>
    e = .returned (.tuple #[.pointer (some ⟨w.heap.size, 0, none⟩), .int .i64 0]) ∧ Cph w' w.heap.size (nth (ks key)) ∧ Below w.heap.size w w' := by
  go_enter Tryz.func65, Tryz.ntmps65
  go_wp2_with fail
  rw [cph0_eq]
  have hrow0 := cph0_row w
  have hb0 := (Below.refl w.heap.size w).alloc (Nat.le_refl _) (.cells cph0 109)
  have hz0 : w.heap.size < (w.alloc (.cells cph0 109)).heap.size := by simp
  go_loopw [18] (fun i wr => ∃ k : Nat, k ≤ 256 ∧ i = .int .i64 k ∧ wr.rowIs w.heap.size 109 753 (cphF (upd k sb zf) (upd k bk zf) zf) ∧ Below w.heap.size w wr ∧ w.heap.size < wr.heap.size) (fun i _ => 256 - (intOf i).toNat)
  case atStart => exact ⟨0, by omega, rfl, hrow0.congr (fun j _ => by simp [cphF, upd, zf]), hb0, hz0⟩
  case round =>
    clear hrow0 hb0 hz0
    obtain ⟨k, hk256, rfl, hrw, hbw, hz⟩ := hrel
    by_cases e0 : k < 256
    · have c1 := hrw.cell (i := 1 + k) (by omega)
      have c2 := hrw.cell (i := 257 + k) (by omega)
      have c3 := hrw.frozen (1 + k)
      have c4 := hrw.frozen (257 + k)
      have kw : IntKind.u8.wrap (k : Int) = k := by rw [IntKind.wrap_u8']; omega
      have HR := Lib.hid hrw
      have HBw := Lib.hid hbw
      clear hrw hbw
      go_wp2_with fail
      go_region_held3 (fun _ => True) (exact trivial) (first
        | (go_at_call 83; (with_reducible refine (sub_any k e0 _).mono ?_); rintro e w' ⟨rfl, rfl⟩)
        | (go_at_call 84; (with_reducible refine (back_any k e0 _).mono ?_); rintro e w' ⟨rfl, rfl⟩))
      go_wp2
      go_roundw
      case rel =>
        refine ⟨k + 1, by omega, by go_num, ?_, ?_, ?_⟩
        · exact cph_step e0 HR.out.drew
        · exact ((HBw.out.drew).setCell (Nat.le_refl _) _).setCell (Nat.le_refl _) _
        · simpa using hz
      case measure => simp [intOf]; omega
    · obtain rfl : k = 256 := by omega
      have HR : Hid (wr.rowIs w.heap.size 109 753 (cphF sb bk zf)) := hrw.congr (fun j hj => by
        unfold cphF
        split
        · rfl
        · split
          · rw [upd_lt _ _ (by omega)]
          · split
            · rw [upd_lt _ _ (by omega)]
            · rfl)
      have HBw := Lib.hid hbw
      clear hrw hbw
      have hr1 := hr.below (HBw.out.mono (Nat.le_refl _))
      have HK := Lib.hid hk
      have HA := Lib.hid hr1
      clear hr hr1 hk
      go_wp2_with (refine append_bytes (o := ⟨some 39, _, _, _, _, _⟩) (v := .slice none 0 0) (l := []) (.const (.slice none 0 0)) (.tmp 38) rfl rfl rfl (Ow.nil _ (w.heap.size + 1)) A 32 c key rfl HK.out.symm HA.out (by simp [HK.out]) hz ?_; intro v1 w1 ho1 hg1 ha1)
      have hc1 : Hid (w1.rowIs w.heap.size 109 753 (cphF sb bk zf)) := HR.out.of_block (hg1.block _ hz (by simp [Value.ownBlock]))
      have hb1 : Hid (Below w.heap.size w w1) := HBw.out.grown hg1 (by omega) (by simp [Value.ownBlock])
      have hz1 : w.heap.size < w1.heap.size := Nat.lt_of_lt_of_le hz hg1.size
      have HO1 := Lib.hid ho1
      clear HR HBw HA hg1 ha1 ho1
      go_loopw [6, 7, 8] (fun v p i wr => ∃ (n p' : Nat) (l : List Nat), 8 ≤ n ∧ n ≤ 60 ∧ i = .int .i64 n ∧ p = .int .u8 p' ∧ p' < 256 ∧ l.length = 4 * n ∧ Ow wr (w.heap.size + 1) v l ∧ wr.rowIs w.heap.size 109 753 (cphF sb bk zf) ∧ Below w.heap.size w wr ∧
          w.heap.size < wr.heap.size ∧ ksF (60 - n) l p' n = ks key) (fun _ _ i _ => 60 - (intOf i).toNat)
      case atStart => exact ⟨8, 1, key, by omega, by omega, rfl, rfl, by omega, HK.out, by simpa using HO1.out, hc1.out, hb1.out, hz1, rfl⟩
      case round =>
        clear hc1 hb1 hz1 HO1
        obtain ⟨n, p', l, hn8, hn60, rfl, rfl, hp', hl, ho, hc, hb, hzz, hks⟩ := hrel
        by_cases e1 : n < 60
        · obtain ⟨g, c1, rfl, hlc, hgb, hg, hcell, hfr⟩ := ho.form0 (by rintro rfl; simp at hl; omega)
          obtain ⟨x0, hx0⟩ : ∃ x, x = nth l (4 * n - 4 + 0) := ⟨_, rfl⟩
          obtain ⟨x1, hx1⟩ : ∃ x, x = nth l (4 * n - 4 + 1) := ⟨_, rfl⟩
          obtain ⟨x2, hx2⟩ : ∃ x, x = nth l (4 * n - 4 + 2) := ⟨_, rfl⟩
          obtain ⟨x3, hx3⟩ : ∃ x, x = nth l (4 * n - 4 + 3) := ⟨_, rfl⟩
          have y0 : x0 < 256 := by rw [hx0]; exact nth_lt ho.1 _
          have y1 : x1 < 256 := by rw [hx1]; exact nth_lt ho.1 _
          have y2 : x2 < 256 := by rw [hx2]; exact nth_lt ho.1 _
          have y3 : x3 < 256 := by rw [hx3]; exact nth_lt ho.1 _
          have hrng : wr.rangeAt g (4 * n - 4) [.int .u8 (x0 : Nat), .int .u8 (x1 : Nat), .int .u8 (x2 : Nat), .int .u8 (x3 : Nat)] := by
            intro j v hv
            have hj : j < 4 := (List.getElem?_eq_some_iff.1 hv).1
            have := hcell (4 * n - 4 + j) (by omega)
            rw [this, ← hv]
            match j, hj with
            | 0, _ => rw [hx0]; rfl
            | 1, _ => rw [hx1]; rfl
            | 2, _ => rw [hx2]; rfl
            | 3, _ => rw [hx3]; rfl
          have hcap : 4 * n ≤ c1 := by omega
          rw [hl]
          have HN := Lib.hid hrng
          have HO := Lib.hid ho
          have HC := Lib.hid hc
          have HB := Lib.hid hb
          have HS := Lib.hid hks
          have HL := Lib.hid hl
          have HLB := Lib.hid HO.out.1
          have X0 := Lib.hid hx0
          have X1 := Lib.hid hx1
          have X2 := Lib.hid hx2
          have X3 := Lib.hid hx3
          clear hrng ho hc hb hks hcell hfr hl hx0 hx1 hx2 hx3
          have hat := fun W : World => run_arrayAt (P := Tryz.prog) (w := W) 111 5 4 (some ⟨g, 4 * n - 4, none⟩) (4 * n - (4 * n - 4)) (c1 - (4 * n - 4)) Tryz.underlying111 (by omega)
          have q0 : ((n : Int) % 8 == 0) = decide (n % 8 = 0) := by rw [Bool.eq_iff_iff]; simp; omega
          have q4 : ((n : Int) % 8 == 4) = decide (n % 8 = 4) := by rw [Bool.eq_iff_iff]; simp; omega
          by_cases z0 : n % 8 = 0
          · rw [decide_eq_true z0] at q0
            have Z0 := Lib.hid z0
            clear z0 q4
            go_wp2_with (refine wpList_load_mid rfl 111 (.tmp 49) rfl g (4 * n - 4) rfl _ _ HN.out Tryz.underlying111 rfl (by kernel_rfl) ?_)
            have hcc : ∀ j v, [Value.int .u8 (x0 : Nat), .int .u8 (x1 : Nat), .int .u8 (x2 : Nat), .int .u8 (x3 : Nat)][j]? = some v → (wr.alloc (.cells #[.int .u8 (x0 : Nat), .int .u8 (x1 : Nat), .int .u8 (x2 : Nat), .int .u8 (x3 : Nat)] 111)).cell? ⟨wr.heap.size, j, none⟩ = some v := by
              intro j v hv
              rw [cell_of_row _ _ _ _ _ _ (heap_alloc_new wr _)]
              simpa using hv
            have hT := heap_alloc_new wr (.cells #[.int .u8 (x0 : Nat), .int .u8 (x1 : Nat), .int .u8 (x2 : Nat), .int .u8 (x3 : Nat)] 111)
            have hrow := World.rowIs.alloc HC.out (.cells #[.int .u8 (x0 : Nat), .int .u8 (x1 : Nat), .int .u8 (x2 : Nat), .int .u8 (x3 : Nat)] 111)
            have hown := HO.out.alloc (.cells #[.int .u8 (x0 : Nat), .int .u8 (x1 : Nat), .int .u8 (x2 : Nat), .int .u8 (x3 : Nat)] 111)
            have hbel := HB.out.alloc (by omega) (.cells #[.int .u8 (x0 : Nat), .int .u8 (x1 : Nat), .int .u8 (x2 : Nat), .int .u8 (x3 : Nat)] 111)
            have hsz : (wr.alloc (.cells #[.int .u8 (x0 : Nat), .int .u8 (x1 : Nat), .int .u8 (x2 : Nat), .int .u8 (x3 : Nat)] 111)).heap.size = wr.heap.size + 1 := by simp
            generalize wr.alloc (.cells #[.int .u8 (x0 : Nat), .int .u8 (x1 : Nat), .int .u8 (x2 : Nat), .int .u8 (x3 : Nat)] 111) = W at *
            have d0 := hcc 0 _ rfl
            have d1 := hcc 1 _ rfl
            have d2 := hcc 2 _ rfl
            have d3 := hcc 3 _ rfl
            have f0 := frozen_of_row W wr.heap.size 0 _ _ hT
            have f1 := frozen_of_row W wr.heap.size 1 _ _ hT
            have f2 := frozen_of_row W wr.heap.size 2 _ _ hT
            have f3 := frozen_of_row W wr.heap.size 3 _ _ hT
            have t0 := cphS_sub hrow y0
            have t1 := cphS_sub hrow y1
            have t2 := cphS_sub hrow y2
            have t3 := cphS_sub hrow y3
            have b0 : (x0 : Int) < 256 := by omega
            have b1 : (x1 : Int) < 256 := by omega
            have b2 : (x2 : Int) < 256 := by omega
            have b3 : (x3 : Int) < 256 := by omega
            have k1 : bits BinOp.xor IntKind.u8 (sb x1 : Int) (p' : Int) = ((sb x1 ^^^ p' : Nat) : Int) := u8_xor_nat _ _ (sb_lt y1) hp'
            have HT := Lib.hid hT
            have HRow := Lib.hid hrow
            have HOwn := Lib.hid hown
            have HBel := Lib.hid hbel
            have HSz := Lib.hid hsz
            clear hcc hT hrow hown hbel hsz HO HC HB HN hat
            refine wp_region_still_tail 31 (by kernel_rfl) (by kernel_rfl) ?_
            simp only [List.take_succ_cons, List.take_zero, List.drop_succ_cons, List.drop_zero]
            repeat still_step
            try refine wpStill_nil ?_
            change wpList _ _ _ _ _ W.drew
            go_wp2_with fail
            refine (times_any p' 2 hp' (by omega) _).mono ?_
            rintro e w2 ⟨rfl, rfl⟩
            have hT2 : ∀ j, j < 4 → ((((((W.setCell ⟨wr.heap.size, 0, none⟩ (.int .u8 (sb x1 ^^^ p' : Nat))).setCell ⟨wr.heap.size, 1, none⟩ (.int .u8 (sb x2 : Nat))).setCell ⟨wr.heap.size, 2, none⟩ (.int .u8 (sb x3 : Nat))).setCell
                ⟨wr.heap.size, 3, none⟩ (.int .u8 (sb x0 : Nat))).drew).cell? ⟨wr.heap.size, j, none⟩ = some (.int .u8 (sel4 (sb x1 ^^^ p') (sb x2) (sb x3) (sb x0) j : Nat))) := four_cells HT.out _ _ _ _
            have hY : ∀ j, j < 4 → sel4 (sb x1 ^^^ p') (sb x2) (sb x3) (sb x0) j = ksT l p' n j := by rw [X0.out, X1.out, X2.out, X3.out]; exact selT0 l p' n Z0.out
            have hYb := sel4_lt (xor_lt8 (sb_lt y1) hp') (sb_lt y2) (sb_lt y3) (sb_lt y0)
            generalize sel4 (sb x1 ^^^ p') (sb x2) (sb x3) (sb x0) = Y at *
            have hrow2 := ((((HRow.out.setOther (a := ⟨wr.heap.size, 0, none⟩) (by show _ ≠ wr.heap.size; omega) (.int .u8 (sb x1 ^^^ p' : Nat))).setOther (a := ⟨wr.heap.size, 1, none⟩) (by show _ ≠ wr.heap.size; omega) (.int .u8 (sb x2 : Nat))).setOther (a := ⟨wr.heap.size, 2, none⟩) (by show _ ≠ wr.heap.size; omega) (.int .u8 (sb x3 : Nat))).setOther (a := ⟨wr.heap.size, 3, none⟩) (by show _ ≠ wr.heap.size; omega) (.int .u8 (sb x0 : Nat))).drew
            have hg2 := grown_drew (grown_set (grown_set (grown_set (grown_set (grown_refl W (some wr.heap.size)) (p := ⟨wr.heap.size, 0, none⟩) (.inl rfl) (.int .u8 (sb x1 ^^^ p' : Nat))) (p := ⟨wr.heap.size, 1, none⟩) (.inl rfl) (.int .u8 (sb x2 : Nat))) (p := ⟨wr.heap.size, 2, none⟩) (.inl rfl) (.int .u8 (sb x3 : Nat))) (p := ⟨wr.heap.size, 3, none⟩) (.inl rfl) (.int .u8 (sb x0 : Nat)))
            generalize ((((W.setCell ⟨wr.heap.size, 0, none⟩ (.int .u8 (sb x1 ^^^ p' : Nat))).setCell ⟨wr.heap.size, 1, none⟩ (.int .u8 (sb x2 : Nat))).setCell ⟨wr.heap.size, 2, none⟩ (.int .u8 (sb x3 : Nat))).setCell ⟨wr.heap.size, 3, none⟩ (.int .u8 (sb x0 : Nat))).drew = W2 at *
            have hown2 := HOwn.out.kept hg2 (.inr (by simp [Value.ownBlock]; omega))
            have hbel2 := HBel.out.grown hg2 (by rw [HSz.out]; omega) (fun k hk => by injection hk with hk; omega)
            have hsz2 : w.heap.size < W2.heap.size := by have := hg2.size; rw [HSz.out] at this; omega
            have d0 := hT2 0 (by omega)
            have d1 := hT2 1 (by omega)
            have d2 := hT2 2 (by omega)
            have d3 := hT2 3 (by omega)
            have HOwn2 := Lib.hid hown2
            have HBel2 := Lib.hid hbel2
            have HRow2 := Lib.hid hrow2
            clear hT2 hg2 hown2 hbel2 hrow2 HT HRow HOwn HBel HSz
            have HY := Lib.hid hY
            have HYb := Lib.hid hYb
            clear hY hYb
            go_wp2_with fail
            obtain ⟨wo, rfl⟩ : ∃ wo : World, wo = wr := ⟨_, rfl⟩
            go_loopw [6, 120] (fun v i wr => ∃ k : Nat, k ≤ 4 ∧ i = .int .i64 k ∧ Ow wr (w.heap.size + 1) v (l ++ (List.range k).map (fun j => nth l (4 * n - 32 + j) ^^^ Y j)) ∧ wr.rowIs w.heap.size 109 753 (cphF sb bk zf) ∧ Below w.heap.size w wr ∧ w.heap.size < wr.heap.size) (fun _ i _ => 4 - (intOf i).toNat)
            case atStart => exact ⟨0, by omega, rfl, by rw [← HL.out]; simpa using HOwn2.out, HRow2.out, HBel2.out, hsz2⟩
            case round =>
              clear HOwn2 HRow2 HBel2 hsz2 d0 d1 d2 d3
              obtain ⟨k, hk, rfl, ho, hc, hb, hzz2⟩ := hrel
              have hlen : (l ++ (List.range k).map (fun j => nth l (4 * n - 32 + j) ^^^ Y j)).length = 4 * n + k := by rw [List.length_append, HL.out]; simp
              by_cases e2 : k < 4
              · obtain ⟨g2, c2, rfl, hlc2, hgb2, hg2, hcell2, hfr2⟩ := ho.form0 (by intro e; rw [e] at hlen; simp at hlen; omega)
                have cz : wr.cell? ⟨g2, 4 * n - 32 + k, none⟩ = some (.int .u8 (nth l (4 * n - 32 + k) : Nat)) := by
                  rw [hcell2 (4 * n - 32 + k) (by omega), nth_app_l (by rw [HL.out]; omega)]
                have hix := idx4f Y k e2
                have ys := HYb.out k
                have yl := nth_lt HLB.out (4 * n - 32 + k)
                have k3 : bits BinOp.xor IntKind.u8 (nth l (4 * n - 32 + k) : Int) (Y k : Int) = ((nth l (4 * n - 32 + k) ^^^ Y k : Nat) : Int) := u8_xor_nat _ _ yl ys
                rw [hlen]
                have bk2 : (k : Int) < 4 := by omega
                have hx256 := xor_lt8 yl ys
                have HOx := Lib.hid ho
                have HCx := Lib.hid hc
                have HBx := Lib.hid hb
                have HLen := Lib.hid hlen
                clear ho hc hb hcell2 hfr2 hlen
                go_wp2_with (at_builtin; refine append_new (.tmp 124) (.tmp 135) rfl rfl _ _ _ (nth l (4 * n - 32 + k) ^^^ Y k) (by rw [← HLen.out]; rfl) rfl HOx.out rfl hx256 (by rw [HLen.out]; omega) (by omega) ?_; intro v3 w3 ho3 hg3 ha3)
                have hc3 : Hid (w3.rowIs w.heap.size 109 753 (cphF sb bk zf)) := HCx.out.of_block (hg3.block _ (by omega) (by intro e; have e : some w.heap.size = some g2 := e; injection e with e; omega))
                have hb3 : Hid (Below w.heap.size w w3) := below_of_append HBx.out HOx.out hg3 (by omega) (by omega)
                have hz3 : w.heap.size < w3.heap.size := Nat.lt_of_lt_of_le hzz2 hg3.size
                have HO3 := Lib.hid ho3
                clear ho3 hg3 ha3 HOx HCx HBx
                go_wp2
                go_roundw
                case rel => exact ⟨k + 1, by omega, by go_num, by rw [range_snoc, ← List.append_assoc]; exact HO3.out, hc3.out, hb3.out, hz3⟩
                case measure => simp [intOf]; omega
              · obtain rfl : k = 4 := by omega
                have hl4 : Hid (l ++ (List.range 4).map (fun j => nth l (4 * n - 32 + j) ^^^ Y j) = ksA l p' n) := by
                  unfold ksA
                  congr 1
                  apply List.map_congr_left
                  intro j hj
                  rw [HY.out j (by simpa using hj)]
                have HOx := Lib.hid ho
                have HCx := Lib.hid hc
                have HBx := Lib.hid hb
                clear ho hc hb hlen
                go_wp2
                go_roundw
                case rel =>
                  refine ⟨n + 1, tm p' 2, ksA l p' n, by omega, by omega, by go_num, rfl, (tm_lt _ _ hp'), by rw [ksA_length, HL.out]; omega, by rw [← hl4.out]; exact HOx.out, HCx.out, HBx.out, hzz2, ?_⟩
                  have := HS.out
                  rw [show 60 - n = (60 - (n + 1)) + 1 by omega] at this
                  unfold ksF at this
                  rw [if_pos Z0.out] at this
                  exact this
                case measure => simp [intOf]; omega
          · by_cases z4 : n % 8 = 4
            · rw [decide_eq_false z0] at q0
              rw [decide_eq_true z4] at q4
              have Z0 := Lib.hid z0
              have Z4 := Lib.hid z4
              clear z0 z4
              go_wp2_with (refine wpList_load_mid rfl 111 (.tmp 49) rfl g (4 * n - 4) rfl _ _ HN.out Tryz.underlying111 rfl (by kernel_rfl) ?_)
              have hcc : ∀ j v, [Value.int .u8 (x0 : Nat), .int .u8 (x1 : Nat), .int .u8 (x2 : Nat), .int .u8 (x3 : Nat)][j]? = some v → (wr.alloc (.cells #[.int .u8 (x0 : Nat), .int .u8 (x1 : Nat), .int .u8 (x2 : Nat), .int .u8 (x3 : Nat)] 111)).cell? ⟨wr.heap.size, j, none⟩ = some v := by
                intro j v hv
                rw [cell_of_row _ _ _ _ _ _ (heap_alloc_new wr _)]
                simpa using hv
              have hT := heap_alloc_new wr (.cells #[.int .u8 (x0 : Nat), .int .u8 (x1 : Nat), .int .u8 (x2 : Nat), .int .u8 (x3 : Nat)] 111)
              have hrow := World.rowIs.alloc HC.out (.cells #[.int .u8 (x0 : Nat), .int .u8 (x1 : Nat), .int .u8 (x2 : Nat), .int .u8 (x3 : Nat)] 111)
              have hown := HO.out.alloc (.cells #[.int .u8 (x0 : Nat), .int .u8 (x1 : Nat), .int .u8 (x2 : Nat), .int .u8 (x3 : Nat)] 111)
              have hbel := HB.out.alloc (by omega) (.cells #[.int .u8 (x0 : Nat), .int .u8 (x1 : Nat), .int .u8 (x2 : Nat), .int .u8 (x3 : Nat)] 111)
              have hsz : (wr.alloc (.cells #[.int .u8 (x0 : Nat), .int .u8 (x1 : Nat), .int .u8 (x2 : Nat), .int .u8 (x3 : Nat)] 111)).heap.size = wr.heap.size + 1 := by simp
              generalize wr.alloc (.cells #[.int .u8 (x0 : Nat), .int .u8 (x1 : Nat), .int .u8 (x2 : Nat), .int .u8 (x3 : Nat)] 111) = W at *
              have d0 := hcc 0 _ rfl
              have d1 := hcc 1 _ rfl
              have d2 := hcc 2 _ rfl
              have d3 := hcc 3 _ rfl
              have f0 := frozen_of_row W wr.heap.size 0 _ _ hT
              have f1 := frozen_of_row W wr.heap.size 1 _ _ hT
              have f2 := frozen_of_row W wr.heap.size 2 _ _ hT
              have f3 := frozen_of_row W wr.heap.size 3 _ _ hT
              have t0 := cphS_sub hrow y0
              have t1 := cphS_sub hrow y1
              have t2 := cphS_sub hrow y2
              have t3 := cphS_sub hrow y3
              have b0 : (x0 : Int) < 256 := by omega
              have b1 : (x1 : Int) < 256 := by omega
              have b2 : (x2 : Int) < 256 := by omega
              have b3 : (x3 : Int) < 256 := by omega
              have HT := Lib.hid hT
              have HRow := Lib.hid hrow
              have HOwn := Lib.hid hown
              have HBel := Lib.hid hbel
              have HSz := Lib.hid hsz
              clear hcc hT hrow hown hbel hsz HO HC HB HN hat
              refine wp_region_still_tail 29 (by kernel_rfl) (by kernel_rfl) ?_
              simp only [List.take_succ_cons, List.take_zero, List.drop_succ_cons, List.drop_zero]
              repeat still_step
              try refine wpStill_nil ?_
              change wpList _ _ _ _ _ W.drew
              go_wp2_with fail
              have hT2 : ∀ j, j < 4 → ((((((W.setCell ⟨wr.heap.size, 0, none⟩ (.int .u8 (sb x0 : Nat))).setCell ⟨wr.heap.size, 1, none⟩ (.int .u8 (sb x1 : Nat))).setCell ⟨wr.heap.size, 2, none⟩ (.int .u8 (sb x2 : Nat))).setCell
                  ⟨wr.heap.size, 3, none⟩ (.int .u8 (sb x3 : Nat))).drew).cell? ⟨wr.heap.size, j, none⟩ = some (.int .u8 (sel4 (sb x0) (sb x1) (sb x2) (sb x3) j : Nat))) := four_cells HT.out _ _ _ _
              have hY : ∀ j, j < 4 → sel4 (sb x0) (sb x1) (sb x2) (sb x3) j = ksT l p' n j := by rw [X0.out, X1.out, X2.out, X3.out]; exact selT4 l p' n Z4.out
              have hYb := sel4_lt (sb_lt y0) (sb_lt y1) (sb_lt y2) (sb_lt y3)
              generalize hYe : sel4 (sb x0) (sb x1) (sb x2) (sb x3) = Y at *
              have HYe := Lib.hid hYe
              clear hYe
              have hrow2 := ((((HRow.out.setOther (a := ⟨wr.heap.size, 0, none⟩) (by show _ ≠ wr.heap.size; omega) (.int .u8 (sb x0 : Nat))).setOther (a := ⟨wr.heap.size, 1, none⟩) (by show _ ≠ wr.heap.size; omega) (.int .u8 (sb x1 : Nat))).setOther (a := ⟨wr.heap.size, 2, none⟩) (by show _ ≠ wr.heap.size; omega) (.int .u8 (sb x2 : Nat))).setOther (a := ⟨wr.heap.size, 3, none⟩) (by show _ ≠ wr.heap.size; omega) (.int .u8 (sb x3 : Nat))).drew
              have hg2 := grown_drew (grown_set (grown_set (grown_set (grown_set (grown_refl W (some wr.heap.size)) (p := ⟨wr.heap.size, 0, none⟩) (.inl rfl) (.int .u8 (sb x0 : Nat))) (p := ⟨wr.heap.size, 1, none⟩) (.inl rfl) (.int .u8 (sb x1 : Nat))) (p := ⟨wr.heap.size, 2, none⟩) (.inl rfl) (.int .u8 (sb x2 : Nat))) (p := ⟨wr.heap.size, 3, none⟩) (.inl rfl) (.int .u8 (sb x3 : Nat)))
              generalize ((((W.setCell ⟨wr.heap.size, 0, none⟩ (.int .u8 (sb x0 : Nat))).setCell ⟨wr.heap.size, 1, none⟩ (.int .u8 (sb x1 : Nat))).setCell ⟨wr.heap.size, 2, none⟩ (.int .u8 (sb x2 : Nat))).setCell ⟨wr.heap.size, 3, none⟩ (.int .u8 (sb x3 : Nat))).drew = W2 at *
              have hown2 := HOwn.out.kept hg2 (.inr (by simp [Value.ownBlock]; omega))
              have hbel2 := HBel.out.grown hg2 (by rw [HSz.out]; omega) (fun k hk => by injection hk with hk; omega)
              have hsz2 : w.heap.size < W2.heap.size := by have := hg2.size; rw [HSz.out] at this; omega
              have d0 := hT2 0 (by omega)
              have d1 := hT2 1 (by omega)
              have d2 := hT2 2 (by omega)
              have d3 := hT2 3 (by omega)
              have HOwn2 := Lib.hid hown2
              have HBel2 := Lib.hid hbel2
              have HRow2 := Lib.hid hrow2
              clear hT2 hg2 hown2 hbel2 hrow2 HT HRow HOwn HBel HSz
              have HY := Lib.hid hY
              have HYb := Lib.hid hYb
              clear hY hYb
              go_wp2_with fail
              obtain ⟨wo, rfl⟩ : ∃ wo : World, wo = wr := ⟨_, rfl⟩
              go_loopw [6, 120] (fun v i wr => ∃ k : Nat, k ≤ 4 ∧ i = .int .i64 k ∧ Ow wr (w.heap.size + 1) v (l ++ (List.range k).map (fun j => nth l (4 * n - 32 + j) ^^^ Y j)) ∧ wr.rowIs w.heap.size 109 753 (cphF sb bk zf) ∧ Below w.heap.size w wr ∧ w.heap.size < wr.heap.size) (fun _ i _ => 4 - (intOf i).toNat)
              case atStart => exact ⟨0, by omega, rfl, by rw [← HL.out]; simpa using HOwn2.out, HRow2.out, HBel2.out, hsz2⟩
              case round =>
                clear HOwn2 HRow2 HBel2 hsz2 d0 d1 d2 d3
                obtain ⟨k, hk, rfl, ho, hc, hb, hzz2⟩ := hrel
                have hlen : (l ++ (List.range k).map (fun j => nth l (4 * n - 32 + j) ^^^ Y j)).length = 4 * n + k := by rw [List.length_append, HL.out]; simp
                by_cases e2 : k < 4
                · obtain ⟨g2, c2, rfl, hlc2, hgb2, hg2, hcell2, hfr2⟩ := ho.form0 (by intro e; rw [e] at hlen; simp at hlen; omega)
                  have cz : wr.cell? ⟨g2, 4 * n - 32 + k, none⟩ = some (.int .u8 (nth l (4 * n - 32 + k) : Nat)) := by
                    rw [hcell2 (4 * n - 32 + k) (by omega), nth_app_l (by rw [HL.out]; omega)]
                  have hix := idx4 (sb x0) (sb x1) (sb x2) (sb x3) k e2
                  rw [HYe.out] at hix
                  have ys := HYb.out k
                  have yl := nth_lt HLB.out (4 * n - 32 + k)
                  have k3 : bits BinOp.xor IntKind.u8 (nth l (4 * n - 32 + k) : Int) (Y k : Int) = ((nth l (4 * n - 32 + k) ^^^ Y k : Nat) : Int) := u8_xor_nat _ _ yl ys
                  rw [hlen]
                  have bk2 : (k : Int) < 4 := by omega
                  have hx256 := xor_lt8 yl ys
                  have HOx := Lib.hid ho
                  have HCx := Lib.hid hc
                  have HBx := Lib.hid hb
                  have HLen := Lib.hid hlen
                  clear ho hc hb hcell2 hfr2 hlen
                  go_wp2_with (at_builtin; refine append_new (.tmp 124) (.tmp 135) rfl rfl _ _ _ (nth l (4 * n - 32 + k) ^^^ Y k) (by rw [← HLen.out]; rfl) rfl HOx.out rfl hx256 (by rw [HLen.out]; omega) (by omega) ?_; intro v3 w3 ho3 hg3 ha3)
                  have hc3 : Hid (w3.rowIs w.heap.size 109 753 (cphF sb bk zf)) := HCx.out.of_block (hg3.block _ (by omega) (by intro e; have e : some w.heap.size = some g2 := e; injection e with e; omega))
                  have hb3 : Hid (Below w.heap.size w w3) := below_of_append HBx.out HOx.out hg3 (by omega) (by omega)
                  have hz3 : w.heap.size < w3.heap.size := Nat.lt_of_lt_of_le hzz2 hg3.size
                  have HO3 := Lib.hid ho3
                  clear ho3 hg3 ha3 HOx HCx HBx
                  go_wp2
                  go_roundw
                  case rel => exact ⟨k + 1, by omega, by go_num, by rw [range_snoc, ← List.append_assoc]; exact HO3.out, hc3.out, hb3.out, hz3⟩
                  case measure => simp [intOf]; omega
                · obtain rfl : k = 4 := by omega
                  have hl4 : Hid (l ++ (List.range 4).map (fun j => nth l (4 * n - 32 + j) ^^^ Y j) = ksA l p' n) := by
                    unfold ksA
                    congr 1
                    apply List.map_congr_left
                    intro j hj
                    rw [HY.out j (by simpa using hj)]
                  have HOx := Lib.hid ho
                  have HCx := Lib.hid hc
                  have HBx := Lib.hid hb
                  clear ho hc hb hlen
                  go_wp2
                  go_roundw
                  case rel =>
                    refine ⟨n + 1, p', ksA l p' n, by omega, by omega, by go_num, rfl, hp', by rw [ksA_length, HL.out]; omega, by rw [← hl4.out]; exact HOx.out, HCx.out, HBx.out, hzz2, ?_⟩
                    have := HS.out
                    rw [show 60 - n = (60 - (n + 1)) + 1 by omega] at this
                    unfold ksF at this
                    rw [if_neg Z0.out] at this
                    exact this
                  case measure => simp [intOf]; omega
            · rw [decide_eq_false z0] at q0
              rw [decide_eq_false z4] at q4
              have Z0 := Lib.hid z0
              have Z4 := Lib.hid z4
              clear z0 z4
              go_wp2_with (refine wpList_load_mid rfl 111 (.tmp 49) rfl g (4 * n - 4) rfl _ _ HN.out Tryz.underlying111 rfl (by kernel_rfl) ?_)
              have hcc : ∀ j v, [Value.int .u8 (x0 : Nat), .int .u8 (x1 : Nat), .int .u8 (x2 : Nat), .int .u8 (x3 : Nat)][j]? = some v → (wr.alloc (.cells #[.int .u8 (x0 : Nat), .int .u8 (x1 : Nat), .int .u8 (x2 : Nat), .int .u8 (x3 : Nat)] 111)).cell? ⟨wr.heap.size, j, none⟩ = some v := by
                intro j v hv
                rw [cell_of_row _ _ _ _ _ _ (heap_alloc_new wr _)]
                simpa using hv
              have hT := heap_alloc_new wr (.cells #[.int .u8 (x0 : Nat), .int .u8 (x1 : Nat), .int .u8 (x2 : Nat), .int .u8 (x3 : Nat)] 111)
              have hrow := World.rowIs.alloc HC.out (.cells #[.int .u8 (x0 : Nat), .int .u8 (x1 : Nat), .int .u8 (x2 : Nat), .int .u8 (x3 : Nat)] 111)
              have hown := HO.out.alloc (.cells #[.int .u8 (x0 : Nat), .int .u8 (x1 : Nat), .int .u8 (x2 : Nat), .int .u8 (x3 : Nat)] 111)
              have hbel := HB.out.alloc (by omega) (.cells #[.int .u8 (x0 : Nat), .int .u8 (x1 : Nat), .int .u8 (x2 : Nat), .int .u8 (x3 : Nat)] 111)
              have hsz : (wr.alloc (.cells #[.int .u8 (x0 : Nat), .int .u8 (x1 : Nat), .int .u8 (x2 : Nat), .int .u8 (x3 : Nat)] 111)).heap.size = wr.heap.size + 1 := by simp
              generalize wr.alloc (.cells #[.int .u8 (x0 : Nat), .int .u8 (x1 : Nat), .int .u8 (x2 : Nat), .int .u8 (x3 : Nat)] 111) = W at *
              have d0 := hcc 0 _ rfl
              have d1 := hcc 1 _ rfl
              have d2 := hcc 2 _ rfl
              have d3 := hcc 3 _ rfl
              have f0 := frozen_of_row W wr.heap.size 0 _ _ hT
              have f1 := frozen_of_row W wr.heap.size 1 _ _ hT
              have f2 := frozen_of_row W wr.heap.size 2 _ _ hT
              have f3 := frozen_of_row W wr.heap.size 3 _ _ hT
              have t0 := cphS_sub hrow y0
              have t1 := cphS_sub hrow y1
              have t2 := cphS_sub hrow y2
              have t3 := cphS_sub hrow y3
              have b0 : (x0 : Int) < 256 := by omega
              have b1 : (x1 : Int) < 256 := by omega
              have b2 : (x2 : Int) < 256 := by omega
              have b3 : (x3 : Int) < 256 := by omega
              have HT := Lib.hid hT
              have HRow := Lib.hid hrow
              have HOwn := Lib.hid hown
              have HBel := Lib.hid hbel
              have HSz := Lib.hid hsz
              clear hcc hT hrow hown hbel hsz HO HC HB HN hat
              have hT2 : ∀ j, j < 4 → W.cell? ⟨wr.heap.size, j, none⟩ = some (.int .u8 (sel4 x0 x1 x2 x3 j : Nat)) := by
                intro j hj
                rcases (show j = 0 ∨ j = 1 ∨ j = 2 ∨ j = 3 by omega) with rfl | rfl | rfl | rfl
                · exact d0
                · exact d1
                · exact d2
                · exact d3
              have hY : ∀ j, j < 4 → sel4 x0 x1 x2 x3 j = ksT l p' n j := by rw [X0.out, X1.out, X2.out, X3.out]; exact selTn l p' n Z0.out Z4.out
              have hYb := sel4_lt y0 y1 y2 y3
              generalize hYe : sel4 x0 x1 x2 x3 = Y at *
              have HYe := Lib.hid hYe
              clear hYe
              have hrow2 := HRow.out
              have hown2 := HOwn.out
              have hbel2 := HBel.out
              have hsz2 : w.heap.size < W.heap.size := by rw [HSz.out]; omega
              clear d0 d1 d2 d3 f0 f1 f2 f3 t0 t1 t2 t3
              have d0 := hT2 0 (by omega)
              have d1 := hT2 1 (by omega)
              have d2 := hT2 2 (by omega)
              have d3 := hT2 3 (by omega)
              have HOwn2 := Lib.hid hown2
              have HBel2 := Lib.hid hbel2
              have HRow2 := Lib.hid hrow2
              clear hT2 hown2 hbel2 hrow2 HT HRow HOwn HBel HSz
              have HY := Lib.hid hY
              have HYb := Lib.hid hYb
              clear hY hYb
              go_wp2_with fail
              obtain ⟨wo, rfl⟩ : ∃ wo : World, wo = wr := ⟨_, rfl⟩
              go_loopw [6, 120] (fun v i wr => ∃ k : Nat, k ≤ 4 ∧ i = .int .i64 k ∧ Ow wr (w.heap.size + 1) v (l ++ (List.range k).map (fun j => nth l (4 * n - 32 + j) ^^^ Y j)) ∧ wr.rowIs w.heap.size 109 753 (cphF sb bk zf) ∧ Below w.heap.size w wr ∧ w.heap.size < wr.heap.size) (fun _ i _ => 4 - (intOf i).toNat)
              case atStart => exact ⟨0, by omega, rfl, by rw [← HL.out]; simpa using HOwn2.out, HRow2.out, HBel2.out, hsz2⟩
              case round =>
                clear HOwn2 HRow2 HBel2 hsz2 d0 d1 d2 d3
                obtain ⟨k, hk, rfl, ho, hc, hb, hzz2⟩ := hrel
                have hlen : (l ++ (List.range k).map (fun j => nth l (4 * n - 32 + j) ^^^ Y j)).length = 4 * n + k := by rw [List.length_append, HL.out]; simp
                by_cases e2 : k < 4
                · obtain ⟨g2, c2, rfl, hlc2, hgb2, hg2, hcell2, hfr2⟩ := ho.form0 (by intro e; rw [e] at hlen; simp at hlen; omega)
                  have cz : wr.cell? ⟨g2, 4 * n - 32 + k, none⟩ = some (.int .u8 (nth l (4 * n - 32 + k) : Nat)) := by
                    rw [hcell2 (4 * n - 32 + k) (by omega), nth_app_l (by rw [HL.out]; omega)]
                  have hix := idx4 (x0) (x1) (x2) (x3) k e2
                  rw [HYe.out] at hix
                  have ys := HYb.out k
                  have yl := nth_lt HLB.out (4 * n - 32 + k)
                  have k3 : bits BinOp.xor IntKind.u8 (nth l (4 * n - 32 + k) : Int) (Y k : Int) = ((nth l (4 * n - 32 + k) ^^^ Y k : Nat) : Int) := u8_xor_nat _ _ yl ys
                  rw [hlen]
                  have bk2 : (k : Int) < 4 := by omega
                  have hx256 := xor_lt8 yl ys
                  have HOx := Lib.hid ho
                  have HCx := Lib.hid hc
                  have HBx := Lib.hid hb
                  have HLen := Lib.hid hlen
                  clear ho hc hb hcell2 hfr2 hlen
                  go_wp2_with (at_builtin; refine append_new (.tmp 124) (.tmp 135) rfl rfl _ _ _ (nth l (4 * n - 32 + k) ^^^ Y k) (by rw [← HLen.out]; rfl) rfl HOx.out rfl hx256 (by rw [HLen.out]; omega) (by omega) ?_; intro v3 w3 ho3 hg3 ha3)
                  have hc3 : Hid (w3.rowIs w.heap.size 109 753 (cphF sb bk zf)) := HCx.out.of_block (hg3.block _ (by omega) (by intro e; have e : some w.heap.size = some g2 := e; injection e with e; omega))
                  have hb3 : Hid (Below w.heap.size w w3) := below_of_append HBx.out HOx.out hg3 (by omega) (by omega)
                  have hz3 : w.heap.size < w3.heap.size := Nat.lt_of_lt_of_le hzz2 hg3.size
                  have HO3 := Lib.hid ho3
                  clear ho3 hg3 ha3 HOx HCx HBx
                  go_wp2
                  go_roundw
                  case rel => exact ⟨k + 1, by omega, by go_num, by rw [range_snoc, ← List.append_assoc]; exact HO3.out, hc3.out, hb3.out, hz3⟩
                  case measure => simp [intOf]; omega
                · obtain rfl : k = 4 := by omega
                  have hl4 : Hid (l ++ (List.range 4).map (fun j => nth l (4 * n - 32 + j) ^^^ Y j) = ksA l p' n) := by
                    unfold ksA
                    congr 1
                    apply List.map_congr_left
                    intro j hj
                    rw [HY.out j (by simpa using hj)]
                  have HOx := Lib.hid ho
                  have HCx := Lib.hid hc
                  have HBx := Lib.hid hb
                  clear ho hc hb hlen
                  go_wp2
                  go_roundw
                  case rel =>
                    refine ⟨n + 1, p', ksA l p' n, by omega, by omega, by go_num, rfl, hp', by rw [ksA_length, HL.out]; omega, by rw [← hl4.out]; exact HOx.out, HCx.out, HBx.out, hzz2, ?_⟩
                    have := HS.out
                    rw [show 60 - n = (60 - (n + 1)) + 1 by omega] at this
                    unfold ksF at this
                    rw [if_neg Z0.out] at this
                    exact this
                  case measure => simp [intOf]; omega
        · obtain rfl : n = 60 := by omega
          rw [show ((60 : Nat) : Int) = 60 from rfl]
          replace hl : l.length = 240 := hl
          obtain ⟨g, c1, rfl, hlc, hgb, hg, hcell, hfr⟩ := ho.form0 (by rintro rfl; simp at hl)
          clear hcell hfr hg
          have hlc2 : 240 ≤ c1 := by omega
          rw [hl] at ho
          rw [hl]
          have HO := Lib.hid ho
          have HC := Lib.hid hc
          have HB := Lib.hid hb
          have HS := Lib.hid hks
          have HL := Lib.hid hl
          clear ho hc hb hks hl
          have hlks : Hid (l = ks key) := HS.out
          obtain ⟨wo, rfl⟩ : ∃ wo : World, wo = wr := ⟨_, rfl⟩
          go_wp2_with fail
          go_loopw [138] (fun i wr => ∃ r : Nat, r ≤ 15 ∧ i = .int .i64 r ∧ Ow wr (w.heap.size + 1) (.slice (some ⟨g, 0, none⟩) 240 c1) l ∧ wr.rowIs w.heap.size 109 753 (cphF sb bk (upd (r * 16) (nth l) zf)) ∧ Below w.heap.size w wr ∧ w.heap.size < wr.heap.size) (fun i _ => 15 - (intOf i).toNat)
          case atStart => exact ⟨0, by omega, rfl, HO.out, HC.out.congr (fun j _ => by unfold cphF; rw [Nat.zero_mul, upd_zero]), HB.out, hzz⟩
          case round =>
            clear HO HC HB hzz HS e1 hn60 hn8
            obtain ⟨r, hr15, rfl, ho, hc, hb, hzz⟩ := hrel
            have hl240 := HL.out
            by_cases e1 : r < 15
            · obtain ⟨g', c', ev, hlc', hgb', hg, hcell, hfr⟩ := ho.form0 (by rintro rfl; simp at hl240)
              have hgg : g = g' := by
                injection ev with ev _ _
                injection ev with ev
                injection ev with ev _
              clear ev hlc'
              subst hgg
              have hrd : Rd wr (some ⟨g, 0, none⟩) l := ⟨ho.1, fun _ => ⟨g, 0, rfl, hg, fun i hi => by rw [Nat.zero_add]; exact hcell i hi⟩⟩
              have hrd2 := hrd.part (r * 16) 16
              rw [Nat.zero_add] at hrd2
              have hmm : ((l.drop (r * 16)).take 16).length = 16 := by rw [List.length_take, List.length_drop]; omega
              have hri : (r : Int) < 15 := by omega
              have hneq : ¬ c1 = 16 * r := by omega
              have hm1 : IntKind.i64.wrap (16 * (r : Int)) = 16 * (r : Int) := IntWalk.i64_in _ ⟨by omega, by omega⟩
              have hm2 : (16 * (r : Int)).toNat = 16 * r := by omega
              have hm3 : (0 : Int) ≤ 16 * (r : Int) := by omega
              have hm4 : 16 * (r : Int) ≤ 240 := by omega
              have HOx := Lib.hid ho
              have HCx := Lib.hid hc
              have HBx := Lib.hid hb
              have HRd : Hid (Rd wr (some ⟨g, 16 * r, none⟩) ((l.drop (r * 16)).take 16)) := by rw [Nat.mul_comm 16 r]; exact hrd2
              have HMm := Lib.hid hmm
              clear ho hc hb hrd hrd2 hmm hcell hfr hl240
              go_wp2_with fail
              refine wp_region_still_tail 10 (by kernel_rfl) (by kernel_rfl) ?_
              simp only [List.take_succ_cons, List.take_zero, List.drop_succ_cons, List.drop_zero]
              repeat still_step
              try refine wpStill_nil ?_
              change wpList _ _ _ _ _ wr.drew
              refine copy_bytes (.tmp 146) (.tmp 150) rfl rfl w.heap.size (513 + r * 16) 16 16 rfl (some ⟨g, 16 * r, none⟩) (240 - 16 * r) (c1 - 16 * r) rfl 109 753 _ HCx.out.drew ((l.drop (r * 16)).take 16)
                (by rw [HMm.out]; show 16 = min (240 - 16 * r) 16; omega) HRd.out.drew (by rw [HMm.out]; omega) ?_
              intro w3 hr3 hg3
              have hc3 : Hid (w3.rowIs w.heap.size 109 753 (cphF sb bk (upd ((r + 1) * 16) (nth l) zf))) := hr3.congr (fun j hj => by
                rw [HMm.out]
                by_cases ej : 513 + r * 16 ≤ j ∧ j < 513 + r * 16 + 16
                · rw [if_pos ej]
                  unfold cphF
                  rw [if_neg (by omega), if_neg (by omega), if_neg (by omega), upd_lt _ _ (by omega), nth_part (by omega), show r * 16 + (j - (513 + r * 16)) = j - 513 by omega]
                · rw [if_neg ej]
                  unfold cphF
                  split
                  · rfl
                  · split
                    · rfl
                    · split
                      · rfl
                      · rcases Nat.lt_or_ge j (513 + r * 16) with e | e
                        · rw [upd_lt _ _ (by omega), upd_lt _ _ (by omega)]
                        · rw [upd_ge _ _ (by omega), upd_ge _ _ (by omega)])
              have hb3 : Hid (Below w.heap.size w w3) := below_of_grown HBx.out.drew hg3 (by show w.heap.size ≤ wr.heap.size; omega) (Nat.le_refl _)
              have hz3 : w.heap.size < w3.heap.size := Nat.lt_of_lt_of_le hzz hg3.size
              have ho3 : Hid (Ow w3 (w.heap.size + 1) (.slice (some ⟨g, 0, none⟩) 240 c1) l) := by
                exact HOx.out.drew.kept hg3 (.inr (by show some g ≠ some w.heap.size; intro e; injection e with e; omega))
              clear hr3 hg3 HOx HCx HBx HRd HMm
              go_wp2
              go_roundw
              case rel => exact ⟨r + 1, by omega, by go_num, ho3.out, hc3.out, hb3.out, hz3⟩
              case measure => simp [intOf]; omega
            · obtain rfl : r = 15 := by omega
              have HOx := Lib.hid ho
              have HCx : Hid (Cph wr w.heap.size (nth (ks key))) := hc.congr (fun j hj => by
                unfold cphV cphF
                split
                · rfl
                · split
                  · rfl
                  · split
                    · rfl
                    · rw [upd_lt _ _ (by omega), hlks.out])
              have HBx := Lib.hid hb
              clear ho hc hb hl240
              go_wp2
              go_ret2
              exact ⟨rfl, HCx.out, HBx.out⟩
end Go.Proofs.YtlhbijpmhokmnaaGreat
