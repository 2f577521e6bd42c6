/-
  THE WALK OF quillpressref05.Words: a key's words. Conditions: the key's 32 bytes and the table are there.
-/
import Derived.Test.YtmldpamkghdohaaRefC
import Derived.Test.YtmldpamkghdohaaBytes2
import Derived.Deep.RegionHeld3
namespace Go.Proofs.Ytmldpamkghdohaa
open Go.RowKit
set_option linter.unusedSimpArgs false
set_option linter.unusedVariables false

theorem Wo.lt {w : World} {base : Nat} {v : Value} {l : List Nat} {n : Nat} (h : Wo w base v l n) : ∀ k, v.ownBlock = some k → base ≤ k := fun k e => by
  obtain ⟨L, h1, _⟩ := h
  exact (h1.lt k e).1
theorem Wo.lt2 {w : World} {base : Nat} {v : Value} {l : List Nat} {n : Nat} (h : Wo w base v l n) : ∀ k, v.ownBlock = some k → k < w.heap.size := fun k e => by
  obtain ⟨L, h1, _⟩ := h
  exact (h1.lt k e).2
theorem rtimes_q (a b : Nat) (ha : a < 256) (hb : b < 256) (w : World) :
    Calls Try.prog 71 #[.int .u8 a, .int .u8 b] w fun e w' => e = .returned (.int .u8 (tm a b)) ∧ w = w' :=
  (rtimes_any a b ha hb w).mono fun _ _ ⟨h, k⟩ => ⟨by rw [h, rtm_eq ha hb], k⟩
theorem nth_take_drop (l : List Nat) (a b k : Nat) (h : k < b) : nth ((l.drop a).take b) k = nth l (a + k) := by
  simp [nth, List.getElem?_take, List.getElem?_drop, h]
theorem Wo.form {w : World} {base : Nat} {v : Value} {l : List Nat} {n : Nat} (h : Wo w base v l n) (hn : 0 < n) : ∃ g c, v = .slice (some ⟨g, 0, none⟩) n c ∧ n ≤ c ∧ base ≤ g ∧ g < w.heap.size ∧
    ∀ i, i < n → ∃ gi oi ci, w.cell? ⟨g, i, none⟩ = some (.slice (some ⟨gi, oi, none⟩) 4 ci) ∧ gi < w.heap.size ∧ ∀ k, k < 4 → w.cell? ⟨gi, oi + k, none⟩ = some (.int .u8 (nth l (4 * i + k) : Nat)) := by
  obtain ⟨L, h1, h2, h3⟩ := h
  obtain ⟨hlen, h | ⟨g, cap, cur, rfl, hg, hh, hcap, hm, hs, ht⟩⟩ := h1
  · omega
  · refine ⟨g, cap, rfl, hcap, hg, lt_of_block hh, fun i hi => ?_⟩
    obtain ⟨u, hu, gi, oi, ci, rfl, k1, k2, k3⟩ := h3 i hi
    refine ⟨gi, oi, ci, ?_, k1, k3⟩
    rw [cell_of_row w g i cur _ _ hh]
    rw [← ht, Nat.mul_one, List.getElem?_take, if_pos hi, Array.getElem?_toList] at hu
    exact hu
theorem Wo.len {w : World} {base : Nat} {v : Value} {l : List Nat} {n : Nat} (h : Wo w base v l n) : l.length = 4 * n := h.choose_spec.2.1
/-- A slice of four bytes at a place of its own. -/
theorem four_new (w : World) (a0 a1 a2 a3 : Nat) : ∀ k, k < 4 → (w.alloc (.cells #[.int .u8 (a0 : Nat), .int .u8 (a1 : Nat), .int .u8 (a2 : Nat), .int .u8 (a3 : Nat)] 5)).cell? ⟨w.heap.size, k, none⟩ = some (.int .u8 (sel4 a0 a1 a2 a3 k : Nat)) := by
  intro k hk
  rw [cell_of_row _ _ _ _ _ _ (heap_alloc_new w _)]
  rcases (show k = 0 ∨ k = 1 ∨ k = 2 ∨ k = 3 by omega) with rfl | rfl | rfl | rfl <;> simp [sel4, nth]

set_option maxRecDepth 100000 in
set_option maxHeartbeats 8000000 in
theorem words_any (gk ok ck gt ct : Nat) (key : List Nat) (w : World) (lk : key.length = 32) (hkl : ∀ x ∈ key, x < 256) (hck : 32 ≤ ck) (hk : ∀ i, i < 32 → w.cell? ⟨gk, ok + i, none⟩ = some (.int .u8 (nth key i : Nat))) (hgk : gk < w.heap.size)
    (ht : ∀ i, i < 256 → w.cell? ⟨gt, i, none⟩ = some (.int .u8 (sb i : Nat))) (hgt : gt < w.heap.size) :
    Calls Try.prog 49 #[.slice (some ⟨gk, ok, none⟩) 32 ck, .slice (some ⟨gt, 0, none⟩) 256 ct] w fun e w' => ∃ v, e = .returned v ∧ Wo w' w.heap.size v (ks key) 60 ∧ Below w.heap.size w w' := by
  have HK := Lib.hid hk
  have HT := Lib.hid ht
  have LK := Lib.hid lk
  clear hk ht lk
  go_enter Try.func49, Try.ntmps49
  go_wp2_with fail
  go_loopw [5, 6] (fun v i wr => ∃ k : Nat, k ≤ 8 ∧ i = .int .i64 k ∧ Wo wr w.heap.size v (key.take (4 * k)) k ∧ Below w.heap.size w wr) (fun _ i _ => 8 - (intOf i).toNat)
  case atStart => exact ⟨0, by omega, rfl, Wo.nil _ _, Below.refl _ _⟩
  case round =>
    obtain ⟨k, hk, rfl, ho, hb⟩ := hrel
    have HO := Lib.hid ho
    have HB := Lib.hid hb
    clear ho hb
    by_cases e0 : k < 8
    · have b0 : (k : Int) < 8 := by omega
      have s0 : IntKind.i64.wrap (4 * (k : Int)) = 4 * k := by simp [IntKind.wrap, IntKind.signed, IntKind.bits]; omega
      have s1 : IntKind.i64.wrap (4 * (k : Int) + 4) = 4 * k + 4 := by simp [IntKind.wrap, IntKind.signed, IntKind.bits]; omega
      have hu : Word wr none (.slice (some ⟨gk, ok + 4 * k, none⟩) 4 (ck - 4 * k)) (fun j => nth ((key.drop (4 * k)).take 4) j) := ⟨gk, ok + 4 * k, ck - 4 * k, rfl, Nat.lt_of_lt_of_le hgk HB.out.size, by simp, fun j hj => by
        rw [HB.out.cell hgk, Nat.add_assoc, HK.out (4 * k + j) (by omega)]; exact congrArg (fun n : Nat => some (Value.int .u8 n)) (nth_take_drop _ _ _ _ hj).symm⟩
      have HU := Lib.hid hu
      clear hu
      go_wp2_with (at_builtin; refine append_word (.tmp 17) (.tmp 25) rfl rfl _ _ ((key.drop (4 * k)).take 4) rfl rfl HO.out (by have := LK.out; simp; omega) HU.out (fun gi oi ci e e2 => by injection e with e; injection e with e; injection e with e; have := HO.out.lt _ e2; omega) (by omega) HB.out.size ?_; intro v1 w1 ho1 hg1 ha1)
      have HO1 := Lib.hid ho1
      have HB1 : Hid (Below w.heap.size w w1) := HB.out.grown hg1 HB.out.size (fun j hj => HO.out.lt j hj)
      clear ho1 hg1 ha1 HO HB HU
      go_wp2_with fail
      go_roundw
      case rel => exact ⟨k + 1, by omega, by go_num, by rw [show key.take (4 * (k + 1)) = key.take (4 * k) ++ (key.drop (4 * k)).take 4 by rw [show 4 * (k + 1) = 4 * k + 4 by omega, List.take_add]]; exact HO1.out, HB1.out⟩
      case measure => simp [intOf]; omega
    · obtain rfl : k = 8 := by omega
      rw [List.take_of_length_le (by have := LK.out; omega)] at HO
      go_wp2_with fail
      obtain ⟨wo, rfl⟩ : ∃ wo : World, wo = wr := ⟨_, rfl⟩
      go_loopw [5, 7, 8] (fun v p i wr => ∃ (n p' : Nat) (l : List Nat), 8 ≤ n ∧ n ≤ 60 ∧ i = .int .i64 n ∧ p = .int .u8 p' ∧ p' < 256 ∧ (∀ x ∈ l, x < 256) ∧ Wo wr w.heap.size v l n ∧ Below w.heap.size w wr ∧ ksF (60 - n) l p' n = ks key) (fun _ _ i _ => 60 - (intOf i).toNat)
      case atStart => exact ⟨8, 1, key, by omega, by omega, rfl, rfl, by omega, hkl, HO.out, HB.out, rfl⟩
      case round =>
        clear HO HB
        obtain ⟨n, p', l, hn8, hn60, rfl, rfl, hp', hlb, ho, hb, hks⟩ := hrel
        by_cases e1 : n < 60
        · obtain ⟨g, c, rfl, hc, hg1, hg2, hwc⟩ := ho.form (by omega)
          obtain ⟨gi, oi, ci, c1, c2, c3⟩ := hwc (n - 1) (by omega)
          have HLB := Lib.hid hlb
          have hlen := ho.len
          obtain ⟨x0, hx0⟩ : ∃ x, x = nth l (4 * n - 4 + 0) := ⟨_, rfl⟩
          obtain ⟨x1, hx1⟩ : ∃ x, x = nth l (4 * n - 4 + 1) := ⟨_, rfl⟩
          obtain ⟨x2, hx2⟩ : ∃ x, x = nth l (4 * n - 4 + 2) := ⟨_, rfl⟩
          obtain ⟨x3, hx3⟩ : ∃ x, x = nth l (4 * n - 4 + 3) := ⟨_, rfl⟩
          have y0 : x0 < 256 := by rw [hx0]; exact nth_lt hlb _
          have y1 : x1 < 256 := by rw [hx1]; exact nth_lt hlb _
          have y2 : x2 < 256 := by rw [hx2]; exact nth_lt hlb _
          have y3 : x3 < 256 := by rw [hx3]; exact nth_lt hlb _
          have d0 : wr.cell? ⟨gi, oi, none⟩ = some (.int .u8 (x0 : Nat)) := by rw [hx0, show 4 * n - 4 + 0 = 4 * (n - 1) + 0 by omega]; exact c3 0 (by omega)
          have d1 : wr.cell? ⟨gi, oi + 1, none⟩ = some (.int .u8 (x1 : Nat)) := by rw [hx1, show 4 * n - 4 + 1 = 4 * (n - 1) + 1 by omega]; exact c3 1 (by omega)
          have d2 : wr.cell? ⟨gi, oi + 2, none⟩ = some (.int .u8 (x2 : Nat)) := by rw [hx2, show 4 * n - 4 + 2 = 4 * (n - 1) + 2 by omega]; exact c3 2 (by omega)
          have d3 : wr.cell? ⟨gi, oi + 3, none⟩ = some (.int .u8 (x3 : Nat)) := by rw [hx3, show 4 * n - 4 + 3 = 4 * (n - 1) + 3 by omega]; exact c3 3 (by omega)
          have s1 : IntKind.i64.wrap ((n : Int) - 1) = n - 1 := by simp [IntKind.wrap, IntKind.signed, IntKind.bits]; omega
          have s2 : ((n : Int) - 1).toNat = n - 1 := by omega
          have s3 : (n : Int) - 1 < n := by omega
          have s4 : 0 ≤ (n : Int) - 1 := by omega
          have q0 : ((n : Int) % 8 == 0) = decide (n % 8 = 0) := by rw [Bool.eq_iff_iff]; simp; omega
          have q4 : ((n : Int) % 8 == 4) = decide (n % 8 = 4) := by rw [Bool.eq_iff_iff]; simp; omega
          have X0 := Lib.hid hx0
          have X1 := Lib.hid hx1
          have X2 := Lib.hid hx2
          have X3 := Lib.hid hx3
          have HO := Lib.hid ho
          have HB := Lib.hid hb
          have HS := Lib.hid hks
          have HWC := Lib.hid hwc
          clear hx0 hx1 hx2 hx3 ho hb hks hwc c3 hlb hlen
          have HT0 : Hid (∀ i, i < 256 → wr.cell? ⟨gt, i, none⟩ = some (.int .u8 (sb i : Nat))) := fun i hi => (HB.out.cell hgt).trans (HT.out i hi)
          by_cases z0 : n % 8 = 0
          · rw [decide_eq_true z0] at q0
            have hz4 : ¬ n % 8 = 4 := by omega
            rw [decide_eq_false hz4] at q4
            have Z0 := Lib.hid z0
            clear z0 hz4
            go_wp2_with fail
            refine wp_region_still_tail 12 (by kernel_rfl) (by kernel_rfl) ?_
            simp only [List.take_succ_cons, List.take_zero, List.drop_succ_cons, List.drop_zero]
            repeat still_step
            try refine wpStill_nil ?_
            change wpList _ _ _ _ _ wr.drew
            go_wp2_with fail
            have hb1 : Below wr.heap.size wr (wr.alloc (.cells #[.int .u8 (x0 : Nat), .int .u8 (x1 : Nat), .int .u8 (x2 : Nat), .int .u8 (x3 : Nat)] 5)).drew := ((Below.refl _ _).alloc (Nat.le_refl _) _).drew
            have ht1 : ∀ k, k < 4 → (wr.alloc (.cells #[.int .u8 (x0 : Nat), .int .u8 (x1 : Nat), .int .u8 (x2 : Nat), .int .u8 (x3 : Nat)] 5)).drew.cell? ⟨wr.heap.size, k, none⟩ = some (.int .u8 (sel4 x0 x1 x2 x3 k : Nat)) := four_new wr x0 x1 x2 x3
            have hz1 : wr.heap.size < (wr.alloc (.cells #[.int .u8 (x0 : Nat), .int .u8 (x1 : Nat), .int .u8 (x2 : Nat), .int .u8 (x3 : Nat)] 5)).drew.heap.size := by simp
            have hgt1 : gt < wr.heap.size := Nat.lt_of_lt_of_le hgt HB.out.size
            generalize (wr.alloc (.cells #[.int .u8 (x0 : Nat), .int .u8 (x1 : Nat), .int .u8 (x2 : Nat), .int .u8 (x3 : Nat)] 5)).drew = W1 at *
            have e0 : W1.cell? ⟨gi, oi, none⟩ = some (.int .u8 (x0 : Nat)) := (hb1.cell c2).trans d0
            have e1 : W1.cell? ⟨gi, oi + 1, none⟩ = some (.int .u8 (x1 : Nat)) := (hb1.cell c2).trans d1
            have e2 : W1.cell? ⟨gi, oi + 2, none⟩ = some (.int .u8 (x2 : Nat)) := (hb1.cell c2).trans d2
            have e3 : W1.cell? ⟨gi, oi + 3, none⟩ = some (.int .u8 (x3 : Nat)) := (hb1.cell c2).trans d3
            have t0 : W1.cell? ⟨gt, x0, none⟩ = some (.int .u8 (sb x0 : Nat)) := (hb1.cell hgt1).trans (HT0.out x0 y0)
            have t1 : W1.cell? ⟨gt, x1, none⟩ = some (.int .u8 (sb x1 : Nat)) := (hb1.cell hgt1).trans (HT0.out x1 y1)
            have t2 : W1.cell? ⟨gt, x2, none⟩ = some (.int .u8 (sb x2 : Nat)) := (hb1.cell hgt1).trans (HT0.out x2 y2)
            have t3 : W1.cell? ⟨gt, x3, none⟩ = some (.int .u8 (sb x3 : Nat)) := (hb1.cell hgt1).trans (HT0.out x3 y3)
            have z0 : (x0 : Int) < 256 := by omega
            have z1 : (x1 : Int) < 256 := by omega
            have z2 : (x2 : Int) < 256 := by omega
            have z3 : (x3 : Int) < 256 := by omega
            have kx : bits BinOp.xor IntKind.u8 (sb x1 : Int) (p' : Int) = ((sb x1 ^^^ p' : Nat) : Int) := u8_xor_nat _ _ (sb_lt y1) hp'
            have HB1 := Lib.hid hb1
            clear hb1 ht1 hz1 d0 d1 d2 d3 c1
            go_wp2_with fail
            refine wp_region_still_tail 26 (by kernel_rfl) (by kernel_rfl) ?_
            simp only [List.take_succ_cons, List.take_zero, List.drop_succ_cons, List.drop_zero]
            repeat still_step
            try refine wpStill_nil ?_
            change wpList _ _ _ _ _ W1.drew
            go_wp2_with fail
            refine (rtimes_q p' 2 hp' (by omega) _).mono ?_
            rintro e w' ⟨rfl, rfl⟩
            have hb2 : Below w.heap.size w (W1.alloc (.cells #[.int .u8 ((sb x1 ^^^ p') : Nat), .int .u8 ((sb x2) : Nat), .int .u8 ((sb x3) : Nat), .int .u8 ((sb x0) : Nat)] 5)).drew := ((HB.out.trans (HB1.out.mono HB.out.size)).alloc (HB.out.trans (HB1.out.mono HB.out.size)).size _).drew
            have hT : ∀ k, k < 4 → (W1.alloc (.cells #[.int .u8 ((sb x1 ^^^ p') : Nat), .int .u8 ((sb x2) : Nat), .int .u8 ((sb x3) : Nat), .int .u8 ((sb x0) : Nat)] 5)).drew.cell? ⟨W1.heap.size, k, none⟩ = some (.int .u8 (sel4 (sb x1 ^^^ p') (sb x2) (sb x3) (sb x0) k : Nat)) := four_new W1 (sb x1 ^^^ p') (sb x2) (sb x3) (sb x0)
            have hgt' : W1.heap.size < (W1.alloc (.cells #[.int .u8 ((sb x1 ^^^ p') : Nat), .int .u8 ((sb x2) : Nat), .int .u8 ((sb x3) : Nat), .int .u8 ((sb x0) : Nat)] 5)).drew.heap.size := by simp
            have hb3 : Below wr.heap.size wr (W1.alloc (.cells #[.int .u8 ((sb x1 ^^^ p') : Nat), .int .u8 ((sb x2) : Nat), .int .u8 ((sb x3) : Nat), .int .u8 ((sb x0) : Nat)] 5)).drew := (HB1.out.alloc HB1.out.size _).drew
            have hY : ∀ j, j < 4 → sel4 (sb x1 ^^^ p') (sb x2) (sb x3) (sb x0) j = ksT l p' n j := by rw [X0.out, X1.out, X2.out, X3.out]; exact selT0 l p' n Z0.out
            have hYb := sel4_lt (xor_lt8 (sb_lt y1) hp') (sb_lt y2) (sb_lt y3) (sb_lt y0)
            generalize (W1.alloc (.cells #[.int .u8 ((sb x1 ^^^ p') : Nat), .int .u8 ((sb x2) : Nat), .int .u8 ((sb x3) : Nat), .int .u8 ((sb x0) : Nat)] 5)).drew = W at *
            generalize sel4 (sb x1 ^^^ p') (sb x2) (sb x3) (sb x0) = Y at *
            generalize W1.heap.size = gt' at *
            have HOwn := Lib.hid (HO.out.kept (row := none) hb3)
            have HBel := Lib.hid hb2
            have HWc : Hid (∀ i, i < n → ∃ gi oi ci, W.cell? ⟨g, i, none⟩ = some (.slice (some ⟨gi, oi, none⟩) 4 ci) ∧ gi < W.heap.size ∧ ∀ k, k < 4 → W.cell? ⟨gi, oi + k, none⟩ = some (.int .u8 (nth l (4 * i + k) : Nat))) := fun i hi => by
              obtain ⟨gj, oj, cj, u1, u2, u3⟩ := HWC.out i hi
              exact ⟨gj, oj, cj, (hb3.cell hg2).trans u1, Nat.lt_of_lt_of_le u2 hb3.size, fun k hk => (hb3.cell u2).trans (u3 k hk)⟩
            have hgW : g < W.heap.size := Nat.lt_of_lt_of_le hg2 hb3.size
            clear hb2 hb3 HB1 HO HB HWC HT0
            have HTT := Lib.hid hT
            have HY := Lib.hid hY
            have HYb := Lib.hid hYb
            clear hT hY hYb
            go_wp2_with fail
            go_loopw [11, 12] (fun v i wr => ∃ k : Nat, k ≤ 4 ∧ i = .int .i64 k ∧ Ow wr W.heap.size v ((List.range k).map (fun j => nth l (4 * n - 32 + j) ^^^ Y j)) ∧ Below W.heap.size W wr) (fun _ i _ => 4 - (intOf i).toNat)
            case atStart => exact ⟨0, by omega, rfl, Ow.nil _ _, Below.refl _ _⟩
            case round =>
              obtain ⟨k, hk4, rfl, ho, hb⟩ := hrel
              have HO2 := Lib.hid ho
              have HB2 := Lib.hid hb
              clear ho hb
              by_cases e2 : k < 4
              · obtain ⟨gj, oj, cj, u1, u2, u3⟩ := HWc.out (n - 8) (by omega)
                have c1 : wr.cell? ⟨g, n - 8, none⟩ = some (.slice (some ⟨gj, oj, none⟩) 4 cj) := (HB2.out.cell hgW).trans u1
                have c2 : wr.cell? ⟨gj, oj + k, none⟩ = some (.int .u8 (nth l (4 * n - 32 + k) : Nat)) := by
                  rw [(HB2.out.cell u2).trans (u3 k e2), show 4 * (n - 8) + k = 4 * n - 32 + k by omega]
                have c3 : wr.cell? ⟨gt', k, none⟩ = some (.int .u8 (Y k : Nat)) := (HB2.out.cell hgt').trans (HTT.out k e2)
                have ys := HYb.out k
                have yl := nth_lt HLB.out (4 * n - 32 + k)
                have k3 : bits BinOp.xor IntKind.u8 (nth l (4 * n - 32 + k) : Int) (Y k : Int) = ((nth l (4 * n - 32 + k) ^^^ Y k : Nat) : Int) := u8_xor_nat _ _ yl ys
                have hx256 := xor_lt8 yl ys
                have bk2 : (k : Int) < 4 := by omega
                have s8 : IntKind.i64.wrap ((n : Int) - 8) = n - 8 := by simp [IntKind.wrap, IntKind.signed, IntKind.bits]; omega
                have s9 : ((n : Int) - 8).toNat = n - 8 := by omega
                have s10 : (n : Int) - 8 < n := by omega
                have s11 : 0 ≤ (n : Int) - 8 := by omega
                have s12 : 8 ≤ (n : Int) := by omega
                have hgj := u2
                clear u1 u2 u3
                have n1 : u11 = u11 := rfl
                have far : ∀ j, j < W.heap.size → j < wr.heap.size ∧ some j ≠ u11.ownBlock := fun j hj => ⟨Nat.lt_of_lt_of_le hj HB2.out.size, fun e => by have := (HO2.out.lt j e.symm).1; omega⟩
                have FAR := Lib.hid far
                clear far n1
                go_wp2_with fail
                go_region_held3 (fun w' => w'.cell? ⟨g, n - 8, none⟩ = some (.slice (some ⟨gj, oj, none⟩) 4 cj) ∧ w'.cell? ⟨gj, oj + k, none⟩ = some (.int .u8 (nth l (4 * n - 32 + k) : Nat)) ∧ w'.cell? ⟨gt', k, none⟩ = some (.int .u8 (Y k : Nat)))
                  (first
                    | exact ⟨c1, c2, c3⟩
                    | exact ⟨(World.cell?_of_block (hg3.block g (FAR.out g hgW).1 (FAR.out g hgW).2)).trans c1, (World.cell?_of_block (hg3.block gj (FAR.out gj hgj).1 (FAR.out gj hgj).2)).trans c2, (World.cell?_of_block (hg3.block _ (FAR.out _ hgt').1 (FAR.out _ hgt').2)).trans c3⟩
                    | go_keep) (first
                  | (refine step_append_new (.tmp 113) (.tmp 127) (by rfl) (by rfl) _ _ _ (nth l (4 * n - 32 + k) ^^^ Y k) (by rfl) (by rfl) HO2.out (by rfl) hx256 (by simp; omega) HB2.out.size ?_; intro v3 w3 ho3 hg3 ha3))
                have HO3 := Lib.hid ho3
                have HB3 : Hid (Below W.heap.size W w3) := below_of_append HB2.out HO2.out hg3 HB2.out.size (Nat.le_refl _)
                clear ho3 hg3 ha3 HO2 HB2 c1 c2 c3
                go_wp2_with fail
                go_roundw
                case rel =>
                  have HO4 : Ow w3 W.heap.size v3 ((List.range (k + 1)).map (fun j => nth l (4 * n - 32 + j) ^^^ Y j)) := by rw [range_snoc]; exact HO3.out
                  first
                    | exact ⟨k + 1, by omega, by go_num, HO4, HB3.out⟩
                    | ((repeat apply Exists.intro); refine ⟨⟨k + 1, by omega, ?_, HO4, HB3.out⟩, rfl⟩; go_num)
                case measure => simp [intOf]; omega
              · obtain rfl : k = 4 := by omega
                obtain ⟨gw, cw, rfl, hw1, hw2, hw3, hw4, -⟩ := HO2.out.form0 (by simp)
                have hu : Word wr none (.slice (some ⟨gw, 0, none⟩) ((List.range 4).map (fun j => nth l (4 * n - 32 + j) ^^^ Y j)).length cw) (fun k => nth ((List.range 4).map (fun j => nth l (4 * n - 32 + j) ^^^ Y j)) k) := ⟨gw, 0, cw, by simp, hw3, by simp, fun j hj => by rw [Nat.zero_add]; exact hw4 j (by simpa using hj)⟩
                have HU := Lib.hid hu
                have HOW := Lib.hid (HOwn.out.kept (row := none) HB2.out)
                have HBB : Hid (Below w.heap.size w wr) := HBel.out.trans (HB2.out.mono HBel.out.size)
                clear hu hw4
                go_wp2_with (at_builtin; refine append_word (.tmp 129) (.tmp 131) rfl rfl _ _ ((List.range 4).map (fun j => nth l (4 * n - 32 + j) ^^^ Y j)) rfl rfl HOW.out (by simp) HU.out (fun gi oi ci e e2 => by injection e with e; injection e with e; injection e with e; have := HOwn.out.lt2 _ e2; omega) (by omega) HBB.out.size ?_; intro v1 w1 ho1 hg1 ha1)
                have HO1 := Lib.hid ho1
                have HB1 : Hid (Below w.heap.size w w1) := HBB.out.grown hg1 HBB.out.size (fun j hj => HOW.out.lt j hj)
                have HKS : Hid (ksA l p' n = l ++ (List.range 4).map (fun j => nth l (4 * n - 32 + j) ^^^ Y j)) := by
                  unfold ksA
                  congr 1
                  apply List.map_congr_left
                  intro j hj
                  rw [HY.out j (by simpa using hj)]
                clear ho1 hg1 ha1
                go_wp2_with fail
                go_roundw
                case rel =>
                  have HK5 : ksF (60 - (n + 1)) (ksA l p' n) (tm p' 2) (n + 1) = ks key := by
                    have := HS.out
                    rw [show 60 - n = (60 - (n + 1)) + 1 by omega] at this
                    unfold ksF at this
                    first | rw [if_pos Z0.out] at this | rw [if_neg Z0.out] at this
                    exact this
                  have hlb2 : ∀ x ∈ ksA l p' n, x < 256 := by
                    intro x hx
                    unfold ksA at hx
                    rcases List.mem_append.1 hx with hx | hx
                    · exact HLB.out x hx
                    · simp only [List.mem_map] at hx
                      obtain ⟨k, _, rfl⟩ := hx
                      exact xor_lt8 (nth_lt HLB.out _) (ksT_lt HLB.out hp')
                  have hp2 : (tm p' 2) < 256 := by first | exact hp' | exact tm_lt _ _ hp'
                  have HO5 : Wo w1 w.heap.size v1 (ksA l p' n) (n + 1) := by rw [HKS.out]; exact HO1.out
                  first
                    | exact ⟨n + 1, (tm p' 2), ksA l p' n, by omega, by omega, by go_num, rfl, hp2, hlb2, HO5, HB1.out, HK5⟩
                    | ((repeat apply Exists.intro); refine ⟨⟨n + 1, (tm p' 2), ksA l p' n, by omega, by omega, ?_, rfl, hp2, hlb2, HO5, HB1.out, HK5⟩, rfl⟩; go_num)
                case measure => simp [intOf]; omega
          · by_cases z4 : n % 8 = 4
            · rw [decide_eq_false z0] at q0
              rw [decide_eq_true z4] at q4
              have Z0 := Lib.hid z0
              have Z4 := Lib.hid z4
              clear z0 z4
              go_wp2_with fail
              refine wp_region_still_tail 12 (by kernel_rfl) (by kernel_rfl) ?_
              simp only [List.take_succ_cons, List.take_zero, List.drop_succ_cons, List.drop_zero]
              repeat still_step
              try refine wpStill_nil ?_
              change wpList _ _ _ _ _ wr.drew
              go_wp2_with fail
              have hb1 : Below wr.heap.size wr (wr.alloc (.cells #[.int .u8 (x0 : Nat), .int .u8 (x1 : Nat), .int .u8 (x2 : Nat), .int .u8 (x3 : Nat)] 5)).drew := ((Below.refl _ _).alloc (Nat.le_refl _) _).drew
              have ht1 : ∀ k, k < 4 → (wr.alloc (.cells #[.int .u8 (x0 : Nat), .int .u8 (x1 : Nat), .int .u8 (x2 : Nat), .int .u8 (x3 : Nat)] 5)).drew.cell? ⟨wr.heap.size, k, none⟩ = some (.int .u8 (sel4 x0 x1 x2 x3 k : Nat)) := four_new wr x0 x1 x2 x3
              have hz1 : wr.heap.size < (wr.alloc (.cells #[.int .u8 (x0 : Nat), .int .u8 (x1 : Nat), .int .u8 (x2 : Nat), .int .u8 (x3 : Nat)] 5)).drew.heap.size := by simp
              have hgt1 : gt < wr.heap.size := Nat.lt_of_lt_of_le hgt HB.out.size
              generalize (wr.alloc (.cells #[.int .u8 (x0 : Nat), .int .u8 (x1 : Nat), .int .u8 (x2 : Nat), .int .u8 (x3 : Nat)] 5)).drew = W1 at *
              have e0 : W1.cell? ⟨gi, oi, none⟩ = some (.int .u8 (x0 : Nat)) := (hb1.cell c2).trans d0
              have e1 : W1.cell? ⟨gi, oi + 1, none⟩ = some (.int .u8 (x1 : Nat)) := (hb1.cell c2).trans d1
              have e2 : W1.cell? ⟨gi, oi + 2, none⟩ = some (.int .u8 (x2 : Nat)) := (hb1.cell c2).trans d2
              have e3 : W1.cell? ⟨gi, oi + 3, none⟩ = some (.int .u8 (x3 : Nat)) := (hb1.cell c2).trans d3
              have t0 : W1.cell? ⟨gt, x0, none⟩ = some (.int .u8 (sb x0 : Nat)) := (hb1.cell hgt1).trans (HT0.out x0 y0)
              have t1 : W1.cell? ⟨gt, x1, none⟩ = some (.int .u8 (sb x1 : Nat)) := (hb1.cell hgt1).trans (HT0.out x1 y1)
              have t2 : W1.cell? ⟨gt, x2, none⟩ = some (.int .u8 (sb x2 : Nat)) := (hb1.cell hgt1).trans (HT0.out x2 y2)
              have t3 : W1.cell? ⟨gt, x3, none⟩ = some (.int .u8 (sb x3 : Nat)) := (hb1.cell hgt1).trans (HT0.out x3 y3)
              have z0 : (x0 : Int) < 256 := by omega
              have z1 : (x1 : Int) < 256 := by omega
              have z2 : (x2 : Int) < 256 := by omega
              have z3 : (x3 : Int) < 256 := by omega
              have HB1 := Lib.hid hb1
              clear hb1 ht1 hz1 d0 d1 d2 d3 c1
              go_wp2_with fail
              refine wp_region_still_tail 24 (by kernel_rfl) (by kernel_rfl) ?_
              simp only [List.take_succ_cons, List.take_zero, List.drop_succ_cons, List.drop_zero]
              repeat still_step
              try refine wpStill_nil ?_
              change wpList _ _ _ _ _ W1.drew
              go_wp2_with fail
              have hb2 : Below w.heap.size w (W1.alloc (.cells #[.int .u8 ((sb x0) : Nat), .int .u8 ((sb x1) : Nat), .int .u8 ((sb x2) : Nat), .int .u8 ((sb x3) : Nat)] 5)).drew := ((HB.out.trans (HB1.out.mono HB.out.size)).alloc (HB.out.trans (HB1.out.mono HB.out.size)).size _).drew
              have hT : ∀ k, k < 4 → (W1.alloc (.cells #[.int .u8 ((sb x0) : Nat), .int .u8 ((sb x1) : Nat), .int .u8 ((sb x2) : Nat), .int .u8 ((sb x3) : Nat)] 5)).drew.cell? ⟨W1.heap.size, k, none⟩ = some (.int .u8 (sel4 (sb x0) (sb x1) (sb x2) (sb x3) k : Nat)) := four_new W1 (sb x0) (sb x1) (sb x2) (sb x3)
              have hgt' : W1.heap.size < (W1.alloc (.cells #[.int .u8 ((sb x0) : Nat), .int .u8 ((sb x1) : Nat), .int .u8 ((sb x2) : Nat), .int .u8 ((sb x3) : Nat)] 5)).drew.heap.size := by simp
              have hb3 : Below wr.heap.size wr (W1.alloc (.cells #[.int .u8 ((sb x0) : Nat), .int .u8 ((sb x1) : Nat), .int .u8 ((sb x2) : Nat), .int .u8 ((sb x3) : Nat)] 5)).drew := (HB1.out.alloc HB1.out.size _).drew
              have hY : ∀ j, j < 4 → sel4 (sb x0) (sb x1) (sb x2) (sb x3) j = ksT l p' n j := by rw [X0.out, X1.out, X2.out, X3.out]; exact selT4 l p' n Z4.out
              have hYb := sel4_lt (sb_lt y0) (sb_lt y1) (sb_lt y2) (sb_lt y3)
              generalize (W1.alloc (.cells #[.int .u8 ((sb x0) : Nat), .int .u8 ((sb x1) : Nat), .int .u8 ((sb x2) : Nat), .int .u8 ((sb x3) : Nat)] 5)).drew = W at *
              generalize sel4 (sb x0) (sb x1) (sb x2) (sb x3) = Y at *
              generalize W1.heap.size = gt' at *
              have HOwn := Lib.hid (HO.out.kept (row := none) hb3)
              have HBel := Lib.hid hb2
              have HWc : Hid (∀ i, i < n → ∃ gi oi ci, W.cell? ⟨g, i, none⟩ = some (.slice (some ⟨gi, oi, none⟩) 4 ci) ∧ gi < W.heap.size ∧ ∀ k, k < 4 → W.cell? ⟨gi, oi + k, none⟩ = some (.int .u8 (nth l (4 * i + k) : Nat))) := fun i hi => by
                obtain ⟨gj, oj, cj, u1, u2, u3⟩ := HWC.out i hi
                exact ⟨gj, oj, cj, (hb3.cell hg2).trans u1, Nat.lt_of_lt_of_le u2 hb3.size, fun k hk => (hb3.cell u2).trans (u3 k hk)⟩
              have hgW : g < W.heap.size := Nat.lt_of_lt_of_le hg2 hb3.size
              clear hb2 hb3 HB1 HO HB HWC HT0
              have HTT := Lib.hid hT
              have HY := Lib.hid hY
              have HYb := Lib.hid hYb
              clear hT hY hYb
              go_wp2_with fail
              go_loopw [11, 12] (fun v i wr => ∃ k : Nat, k ≤ 4 ∧ i = .int .i64 k ∧ Ow wr W.heap.size v ((List.range k).map (fun j => nth l (4 * n - 32 + j) ^^^ Y j)) ∧ Below W.heap.size W wr) (fun _ i _ => 4 - (intOf i).toNat)
              case atStart => exact ⟨0, by omega, rfl, Ow.nil _ _, Below.refl _ _⟩
              case round =>
                obtain ⟨k, hk4, rfl, ho, hb⟩ := hrel
                have HO2 := Lib.hid ho
                have HB2 := Lib.hid hb
                clear ho hb
                by_cases e2 : k < 4
                · obtain ⟨gj, oj, cj, u1, u2, u3⟩ := HWc.out (n - 8) (by omega)
                  have c1 : wr.cell? ⟨g, n - 8, none⟩ = some (.slice (some ⟨gj, oj, none⟩) 4 cj) := (HB2.out.cell hgW).trans u1
                  have c2 : wr.cell? ⟨gj, oj + k, none⟩ = some (.int .u8 (nth l (4 * n - 32 + k) : Nat)) := by
                    rw [(HB2.out.cell u2).trans (u3 k e2), show 4 * (n - 8) + k = 4 * n - 32 + k by omega]
                  have c3 : wr.cell? ⟨gt', k, none⟩ = some (.int .u8 (Y k : Nat)) := (HB2.out.cell hgt').trans (HTT.out k e2)
                  have ys := HYb.out k
                  have yl := nth_lt HLB.out (4 * n - 32 + k)
                  have k3 : bits BinOp.xor IntKind.u8 (nth l (4 * n - 32 + k) : Int) (Y k : Int) = ((nth l (4 * n - 32 + k) ^^^ Y k : Nat) : Int) := u8_xor_nat _ _ yl ys
                  have hx256 := xor_lt8 yl ys
                  have bk2 : (k : Int) < 4 := by omega
                  have s8 : IntKind.i64.wrap ((n : Int) - 8) = n - 8 := by simp [IntKind.wrap, IntKind.signed, IntKind.bits]; omega
                  have s9 : ((n : Int) - 8).toNat = n - 8 := by omega
                  have s10 : (n : Int) - 8 < n := by omega
                  have s11 : 0 ≤ (n : Int) - 8 := by omega
                  have s12 : 8 ≤ (n : Int) := by omega
                  have hgj := u2
                  clear u1 u2 u3
                  have n1 : u11 = u11 := rfl
                  have far : ∀ j, j < W.heap.size → j < wr.heap.size ∧ some j ≠ u11.ownBlock := fun j hj => ⟨Nat.lt_of_lt_of_le hj HB2.out.size, fun e => by have := (HO2.out.lt j e.symm).1; omega⟩
                  have FAR := Lib.hid far
                  clear far n1
                  go_wp2_with fail
                  go_region_held3 (fun w' => w'.cell? ⟨g, n - 8, none⟩ = some (.slice (some ⟨gj, oj, none⟩) 4 cj) ∧ w'.cell? ⟨gj, oj + k, none⟩ = some (.int .u8 (nth l (4 * n - 32 + k) : Nat)) ∧ w'.cell? ⟨gt', k, none⟩ = some (.int .u8 (Y k : Nat)))
                    (first
                      | exact ⟨c1, c2, c3⟩
                      | exact ⟨(World.cell?_of_block (hg3.block g (FAR.out g hgW).1 (FAR.out g hgW).2)).trans c1, (World.cell?_of_block (hg3.block gj (FAR.out gj hgj).1 (FAR.out gj hgj).2)).trans c2, (World.cell?_of_block (hg3.block _ (FAR.out _ hgt').1 (FAR.out _ hgt').2)).trans c3⟩
                      | go_keep) (first
                    | (refine step_append_new (.tmp 113) (.tmp 127) (by rfl) (by rfl) _ _ _ (nth l (4 * n - 32 + k) ^^^ Y k) (by rfl) (by rfl) HO2.out (by rfl) hx256 (by simp; omega) HB2.out.size ?_; intro v3 w3 ho3 hg3 ha3))
                  have HO3 := Lib.hid ho3
                  have HB3 : Hid (Below W.heap.size W w3) := below_of_append HB2.out HO2.out hg3 HB2.out.size (Nat.le_refl _)
                  clear ho3 hg3 ha3 HO2 HB2 c1 c2 c3
                  go_wp2_with fail
                  go_roundw
                  case rel =>
                    have HO4 : Ow w3 W.heap.size v3 ((List.range (k + 1)).map (fun j => nth l (4 * n - 32 + j) ^^^ Y j)) := by rw [range_snoc]; exact HO3.out
                    first
                      | exact ⟨k + 1, by omega, by go_num, HO4, HB3.out⟩
                      | ((repeat apply Exists.intro); refine ⟨⟨k + 1, by omega, ?_, HO4, HB3.out⟩, rfl⟩; go_num)
                  case measure => simp [intOf]; omega
                · obtain rfl : k = 4 := by omega
                  obtain ⟨gw, cw, rfl, hw1, hw2, hw3, hw4, -⟩ := HO2.out.form0 (by simp)
                  have hu : Word wr none (.slice (some ⟨gw, 0, none⟩) ((List.range 4).map (fun j => nth l (4 * n - 32 + j) ^^^ Y j)).length cw) (fun k => nth ((List.range 4).map (fun j => nth l (4 * n - 32 + j) ^^^ Y j)) k) := ⟨gw, 0, cw, by simp, hw3, by simp, fun j hj => by rw [Nat.zero_add]; exact hw4 j (by simpa using hj)⟩
                  have HU := Lib.hid hu
                  have HOW := Lib.hid (HOwn.out.kept (row := none) HB2.out)
                  have HBB : Hid (Below w.heap.size w wr) := HBel.out.trans (HB2.out.mono HBel.out.size)
                  clear hu hw4
                  go_wp2_with (at_builtin; refine append_word (.tmp 129) (.tmp 131) rfl rfl _ _ ((List.range 4).map (fun j => nth l (4 * n - 32 + j) ^^^ Y j)) rfl rfl HOW.out (by simp) HU.out (fun gi oi ci e e2 => by injection e with e; injection e with e; injection e with e; have := HOwn.out.lt2 _ e2; omega) (by omega) HBB.out.size ?_; intro v1 w1 ho1 hg1 ha1)
                  have HO1 := Lib.hid ho1
                  have HB1 : Hid (Below w.heap.size w w1) := HBB.out.grown hg1 HBB.out.size (fun j hj => HOW.out.lt j hj)
                  have HKS : Hid (ksA l p' n = l ++ (List.range 4).map (fun j => nth l (4 * n - 32 + j) ^^^ Y j)) := by
                    unfold ksA
                    congr 1
                    apply List.map_congr_left
                    intro j hj
                    rw [HY.out j (by simpa using hj)]
                  clear ho1 hg1 ha1
                  go_wp2_with fail
                  go_roundw
                  case rel =>
                    have HK5 : ksF (60 - (n + 1)) (ksA l p' n) p' (n + 1) = ks key := by
                      have := HS.out
                      rw [show 60 - n = (60 - (n + 1)) + 1 by omega] at this
                      unfold ksF at this
                      first | rw [if_pos Z0.out] at this | rw [if_neg Z0.out] at this
                      exact this
                    have hlb2 : ∀ x ∈ ksA l p' n, x < 256 := by
                      intro x hx
                      unfold ksA at hx
                      rcases List.mem_append.1 hx with hx | hx
                      · exact HLB.out x hx
                      · simp only [List.mem_map] at hx
                        obtain ⟨k, _, rfl⟩ := hx
                        exact xor_lt8 (nth_lt HLB.out _) (ksT_lt HLB.out hp')
                    have hp2 : p' < 256 := by first | exact hp' | exact tm_lt _ _ hp'
                    have HO5 : Wo w1 w.heap.size v1 (ksA l p' n) (n + 1) := by rw [HKS.out]; exact HO1.out
                    first
                      | exact ⟨n + 1, p', ksA l p' n, by omega, by omega, by go_num, rfl, hp2, hlb2, HO5, HB1.out, HK5⟩
                      | ((repeat apply Exists.intro); refine ⟨⟨n + 1, p', ksA l p' n, by omega, by omega, ?_, rfl, hp2, hlb2, HO5, HB1.out, HK5⟩, rfl⟩; go_num)
                  case measure => simp [intOf]; omega
            · rw [decide_eq_false z0] at q0
              rw [decide_eq_false z4] at q4
              have Z0 := Lib.hid z0
              have Z4 := Lib.hid z4
              clear z0 z4
              go_wp2_with fail
              refine wp_region_still_tail 12 (by kernel_rfl) (by kernel_rfl) ?_
              simp only [List.take_succ_cons, List.take_zero, List.drop_succ_cons, List.drop_zero]
              repeat still_step
              try refine wpStill_nil ?_
              change wpList _ _ _ _ _ wr.drew
              go_wp2_with fail
              have hb1 : Below wr.heap.size wr (wr.alloc (.cells #[.int .u8 (x0 : Nat), .int .u8 (x1 : Nat), .int .u8 (x2 : Nat), .int .u8 (x3 : Nat)] 5)).drew := ((Below.refl _ _).alloc (Nat.le_refl _) _).drew
              have ht1 : ∀ k, k < 4 → (wr.alloc (.cells #[.int .u8 (x0 : Nat), .int .u8 (x1 : Nat), .int .u8 (x2 : Nat), .int .u8 (x3 : Nat)] 5)).drew.cell? ⟨wr.heap.size, k, none⟩ = some (.int .u8 (sel4 x0 x1 x2 x3 k : Nat)) := four_new wr x0 x1 x2 x3
              have hz1 : wr.heap.size < (wr.alloc (.cells #[.int .u8 (x0 : Nat), .int .u8 (x1 : Nat), .int .u8 (x2 : Nat), .int .u8 (x3 : Nat)] 5)).drew.heap.size := by simp
              have hgt1 : gt < wr.heap.size := Nat.lt_of_lt_of_le hgt HB.out.size
              generalize (wr.alloc (.cells #[.int .u8 (x0 : Nat), .int .u8 (x1 : Nat), .int .u8 (x2 : Nat), .int .u8 (x3 : Nat)] 5)).drew = W1 at *
              have hY : ∀ j, j < 4 → sel4 x0 x1 x2 x3 j = ksT l p' n j := by rw [X0.out, X1.out, X2.out, X3.out]; exact selTn l p' n Z0.out Z4.out
              have hYb := sel4_lt y0 y1 y2 y3
              obtain ⟨gt', hg'⟩ : ∃ x, x = wr.heap.size := ⟨_, rfl⟩
              rw [← hg'] at ht1 hz1 ⊢
              have hT := ht1
              have hgt' := hz1
              clear hg'
              have HB1 := Lib.hid hb1
              clear hb1 ht1 hz1 d0 d1 d2 d3 c1
              obtain ⟨W, hW⟩ : ∃ W, W = W1 := ⟨_, rfl⟩
              subst hW
              generalize sel4 x0 x1 x2 x3 = Y at *
              have hb3 := HB1.out
              have hb2 : Below w.heap.size w W := HB.out.trans (HB1.out.mono HB.out.size)
              have HOwn := Lib.hid (HO.out.kept (row := none) hb3)
              have HBel := Lib.hid hb2
              have HWc : Hid (∀ i, i < n → ∃ gi oi ci, W.cell? ⟨g, i, none⟩ = some (.slice (some ⟨gi, oi, none⟩) 4 ci) ∧ gi < W.heap.size ∧ ∀ k, k < 4 → W.cell? ⟨gi, oi + k, none⟩ = some (.int .u8 (nth l (4 * i + k) : Nat))) := fun i hi => by
                obtain ⟨gj, oj, cj, u1, u2, u3⟩ := HWC.out i hi
                exact ⟨gj, oj, cj, (hb3.cell hg2).trans u1, Nat.lt_of_lt_of_le u2 hb3.size, fun k hk => (hb3.cell u2).trans (u3 k hk)⟩
              have hgW : g < W.heap.size := Nat.lt_of_lt_of_le hg2 hb3.size
              clear hb2 hb3 HB1 HO HB HWC HT0
              have HTT := Lib.hid hT
              have HY := Lib.hid hY
              have HYb := Lib.hid hYb
              clear hT hY hYb
              go_wp2_with fail
              go_loopw [11, 12] (fun v i wr => ∃ k : Nat, k ≤ 4 ∧ i = .int .i64 k ∧ Ow wr W.heap.size v ((List.range k).map (fun j => nth l (4 * n - 32 + j) ^^^ Y j)) ∧ Below W.heap.size W wr) (fun _ i _ => 4 - (intOf i).toNat)
              case atStart => exact ⟨0, by omega, rfl, Ow.nil _ _, Below.refl _ _⟩
              case round =>
                obtain ⟨k, hk4, rfl, ho, hb⟩ := hrel
                have HO2 := Lib.hid ho
                have HB2 := Lib.hid hb
                clear ho hb
                by_cases e2 : k < 4
                · obtain ⟨gj, oj, cj, u1, u2, u3⟩ := HWc.out (n - 8) (by omega)
                  have c1 : wr.cell? ⟨g, n - 8, none⟩ = some (.slice (some ⟨gj, oj, none⟩) 4 cj) := (HB2.out.cell hgW).trans u1
                  have c2 : wr.cell? ⟨gj, oj + k, none⟩ = some (.int .u8 (nth l (4 * n - 32 + k) : Nat)) := by
                    rw [(HB2.out.cell u2).trans (u3 k e2), show 4 * (n - 8) + k = 4 * n - 32 + k by omega]
                  have c3 : wr.cell? ⟨gt', k, none⟩ = some (.int .u8 (Y k : Nat)) := (HB2.out.cell hgt').trans (HTT.out k e2)
                  have ys := HYb.out k
                  have yl := nth_lt HLB.out (4 * n - 32 + k)
                  have k3 : bits BinOp.xor IntKind.u8 (nth l (4 * n - 32 + k) : Int) (Y k : Int) = ((nth l (4 * n - 32 + k) ^^^ Y k : Nat) : Int) := u8_xor_nat _ _ yl ys
                  have hx256 := xor_lt8 yl ys
                  have bk2 : (k : Int) < 4 := by omega
                  have s8 : IntKind.i64.wrap ((n : Int) - 8) = n - 8 := by simp [IntKind.wrap, IntKind.signed, IntKind.bits]; omega
                  have s9 : ((n : Int) - 8).toNat = n - 8 := by omega
                  have s10 : (n : Int) - 8 < n := by omega
                  have s11 : 0 ≤ (n : Int) - 8 := by omega
                  have s12 : 8 ≤ (n : Int) := by omega
                  have hgj := u2
                  clear u1 u2 u3
                  have n1 : u11 = u11 := rfl
                  have far : ∀ j, j < W.heap.size → j < wr.heap.size ∧ some j ≠ u11.ownBlock := fun j hj => ⟨Nat.lt_of_lt_of_le hj HB2.out.size, fun e => by have := (HO2.out.lt j e.symm).1; omega⟩
                  have FAR := Lib.hid far
                  clear far n1
                  go_wp2_with fail
                  go_region_held3 (fun w' => w'.cell? ⟨g, n - 8, none⟩ = some (.slice (some ⟨gj, oj, none⟩) 4 cj) ∧ w'.cell? ⟨gj, oj + k, none⟩ = some (.int .u8 (nth l (4 * n - 32 + k) : Nat)) ∧ w'.cell? ⟨gt', k, none⟩ = some (.int .u8 (Y k : Nat)))
                    (first
                      | exact ⟨c1, c2, c3⟩
                      | exact ⟨(World.cell?_of_block (hg3.block g (FAR.out g hgW).1 (FAR.out g hgW).2)).trans c1, (World.cell?_of_block (hg3.block gj (FAR.out gj hgj).1 (FAR.out gj hgj).2)).trans c2, (World.cell?_of_block (hg3.block _ (FAR.out _ hgt').1 (FAR.out _ hgt').2)).trans c3⟩
                      | go_keep) (first
                    | (refine step_append_new (.tmp 113) (.tmp 127) (by rfl) (by rfl) _ _ _ (nth l (4 * n - 32 + k) ^^^ Y k) (by rfl) (by rfl) HO2.out (by rfl) hx256 (by simp; omega) HB2.out.size ?_; intro v3 w3 ho3 hg3 ha3))
                  have HO3 := Lib.hid ho3
                  have HB3 : Hid (Below W.heap.size W w3) := below_of_append HB2.out HO2.out hg3 HB2.out.size (Nat.le_refl _)
                  clear ho3 hg3 ha3 HO2 HB2 c1 c2 c3
                  go_wp2_with fail
                  go_roundw
                  case rel =>
                    have HO4 : Ow w3 W.heap.size v3 ((List.range (k + 1)).map (fun j => nth l (4 * n - 32 + j) ^^^ Y j)) := by rw [range_snoc]; exact HO3.out
                    first
                      | exact ⟨k + 1, by omega, by go_num, HO4, HB3.out⟩
                      | ((repeat apply Exists.intro); refine ⟨⟨k + 1, by omega, ?_, HO4, HB3.out⟩, rfl⟩; go_num)
                  case measure => simp [intOf]; omega
                · obtain rfl : k = 4 := by omega
                  obtain ⟨gw, cw, rfl, hw1, hw2, hw3, hw4, -⟩ := HO2.out.form0 (by simp)
                  have hu : Word wr none (.slice (some ⟨gw, 0, none⟩) ((List.range 4).map (fun j => nth l (4 * n - 32 + j) ^^^ Y j)).length cw) (fun k => nth ((List.range 4).map (fun j => nth l (4 * n - 32 + j) ^^^ Y j)) k) := ⟨gw, 0, cw, by simp, hw3, by simp, fun j hj => by rw [Nat.zero_add]; exact hw4 j (by simpa using hj)⟩
                  have HU := Lib.hid hu
                  have HOW := Lib.hid (HOwn.out.kept (row := none) HB2.out)
                  have HBB : Hid (Below w.heap.size w wr) := HBel.out.trans (HB2.out.mono HBel.out.size)
                  clear hu hw4
                  go_wp2_with (at_builtin; refine append_word (.tmp 129) (.tmp 131) rfl rfl _ _ ((List.range 4).map (fun j => nth l (4 * n - 32 + j) ^^^ Y j)) rfl rfl HOW.out (by simp) HU.out (fun gi oi ci e e2 => by injection e with e; injection e with e; injection e with e; have := HOwn.out.lt2 _ e2; omega) (by omega) HBB.out.size ?_; intro v1 w1 ho1 hg1 ha1)
                  have HO1 := Lib.hid ho1
                  have HB1 : Hid (Below w.heap.size w w1) := HBB.out.grown hg1 HBB.out.size (fun j hj => HOW.out.lt j hj)
                  have HKS : Hid (ksA l p' n = l ++ (List.range 4).map (fun j => nth l (4 * n - 32 + j) ^^^ Y j)) := by
                    unfold ksA
                    congr 1
                    apply List.map_congr_left
                    intro j hj
                    rw [HY.out j (by simpa using hj)]
                  clear ho1 hg1 ha1
                  go_wp2_with fail
                  go_roundw
                  case rel =>
                    have HK5 : ksF (60 - (n + 1)) (ksA l p' n) p' (n + 1) = ks key := by
                      have := HS.out
                      rw [show 60 - n = (60 - (n + 1)) + 1 by omega] at this
                      unfold ksF at this
                      first | rw [if_pos Z0.out] at this | rw [if_neg Z0.out] at this
                      exact this
                    have hlb2 : ∀ x ∈ ksA l p' n, x < 256 := by
                      intro x hx
                      unfold ksA at hx
                      rcases List.mem_append.1 hx with hx | hx
                      · exact HLB.out x hx
                      · simp only [List.mem_map] at hx
                        obtain ⟨k, _, rfl⟩ := hx
                        exact xor_lt8 (nth_lt HLB.out _) (ksT_lt HLB.out hp')
                    have hp2 : p' < 256 := by first | exact hp' | exact tm_lt _ _ hp'
                    have HO5 : Wo w1 w.heap.size v1 (ksA l p' n) (n + 1) := by rw [HKS.out]; exact HO1.out
                    first
                      | exact ⟨n + 1, p', ksA l p' n, by omega, by omega, by go_num, rfl, hp2, hlb2, HO5, HB1.out, HK5⟩
                      | ((repeat apply Exists.intro); refine ⟨⟨n + 1, p', ksA l p' n, by omega, by omega, ?_, rfl, hp2, hlb2, HO5, HB1.out, HK5⟩, rfl⟩; go_num)
                  case measure => simp [intOf]; omega
        · obtain rfl : n = 60 := by omega
          have HO := Lib.hid ho
          have HB := Lib.hid hb
          have HS : Hid (l = ks key) := hks
          clear ho hb hks
          go_wp2_with fail
          go_ret
          exact ⟨_, rfl, by rw [← HS.out]; exact HO.out, HB.out⟩
end Go.Proofs.Ytmldpamkghdohaa
