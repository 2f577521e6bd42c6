/-
  THE WALK OF quillpresslow.ApartBytes. Conditions: each list lies in a block of its own.
-/
import Derived.Test.YtkmjbfednmidbaaSpa1
import Derived.Deep.RegionHeld3
import Derived.BigQuiet
import Derived.Deep.Cut
import Derived.Deep.QuietTactic
namespace Go.Proofs.Ytkmjbfednmidbaa
open Go.RowKit
set_option linter.unusedSimpArgs false
set_option linter.unusedVariables false

set_option maxRecDepth 100000 in
set_option maxHeartbeats 8000000 in
theorem apart_any (gl N cap : Nat) (V : Nat → Value) (b : Nat → Option Nat) (m c : Nat → Nat) (w : World) (hN : N ≤ 255) (hcell : ∀ i, i < N → w.cell? ⟨gl, i, none⟩ = some (V i)) (hbk : ∀ i, i < N → Bk w (V i) (b i) (m i) (c i))
    (hdis : ∀ i j, i < N → j < N → i ≠ j → ∀ g, b i = some g → b j ≠ some g) (hgl : ∀ i, i < N → b i ≠ some gl) (hmm : ∀ i, m i ≤ 9223372036854775807) :
    Calls Try.prog 28 #[.slice (some ⟨gl, 0, none⟩) N cap] w fun e w' => e = .returned (.bool true) ∧ Alt w w' (fun x => ∃ i, i < N ∧ b i = some x) := by
  obtain ⟨S, hS⟩ : ∃ S : Nat → Prop, S = fun x => ∃ i, i < N ∧ b i = some x := ⟨_, rfl⟩
  have hSw : ∀ x, S x → x < w.heap.size := by
    intro x hx
    rw [hS] at hx
    obtain ⟨i, hi, e⟩ := hx
    exact (hbk i hi).lt e
  have hSi : ∀ i, i < N → ∀ x, b i = some x → S x := fun i hi x e => by rw [hS]; exact ⟨i, hi, e⟩
  have hSg : ¬ S gl := by
    rw [hS]
    rintro ⟨i, hi, e⟩
    exact hgl i hi e
  rw [← hS]
  have HC := Lib.hid hcell
  have HB := Lib.hid hbk
  have HD := Lib.hid hdis
  have HSW := Lib.hid hSw
  have HSI := Lib.hid hSi
  have HSG := Lib.hid hSg
  clear hcell hbk hdis hgl hS hSw hSi hSg
  go_enter Try.func28, Try.ntmps28
  go_wp2_with fail
  go_loopw [10] (fun v wr => ∃ r : Nat, r ≤ 2 ∧ v = .int .i64 r ∧ Alt w wr S ∧ ∀ i, i < N → Bk wr (V i) (b i) (m i) (c i)) (fun v _ => 2 - (intOf v).toNat)
  case atStart => exact ⟨0, by omega, rfl, Alt.refl _ _, HB.out⟩
  case round =>
    obtain ⟨r, hr, rfl, ha, hbk⟩ := hrel
    have HA := Lib.hid ha
    have HK := Lib.hid hbk
    clear ha hbk
    by_cases r2 : r < 2
    · have r2' : (r : Int) < 2 := by omega
      have hax : Alt w (wr.alloc (.cells #[.int .i64 r] 3)) S := HA.out.bel ((Below.refl _ _).alloc (Nat.le_refl _) _)
      have hpx : (wr.alloc (.cells #[.int .i64 r] 3)).cell? ⟨wr.heap.size, 0, none⟩ = some (.int .i64 r) := by rw [cell_of_row _ _ _ _ _ _ (heap_alloc_new wr _)]; rfl
      have hps : wr.heap.size < (wr.alloc (.cells #[.int .i64 r] 3)).heap.size := by rw [World.size_alloc]; omega
      have hpn : ¬ S wr.heap.size := fun h => by have := HSW.out _ h; have := HA.out.size; omega
      have hbx : ∀ i, i < N → Bk (wr.alloc (.cells #[.int .i64 r] 3)) (V i) (b i) (m i) (c i) := fun i hi => (HK.out i hi).keep fun k e => ((Below.refl wr.heap.size wr).alloc (Nat.le_refl _) _).block k ((HK.out i hi).lt e)
      go_wp2_with fail
      generalize wr.alloc (.cells #[.int .i64 r] 3) = X at *
      generalize wr.heap.size = pr at *
      have HAX := Lib.hid hax
      have HPX := Lib.hid hpx
      have HPS := Lib.hid hps
      have HPN := Lib.hid hpn
      have HBX := Lib.hid hbx
      clear hax hpx hps hpn hbx HA HK
      go_loopw [15] (fun v wk => ∃ k : Nat, k ≤ N ∧ v = .int .i64 k ∧ Alt X wk S ∧ (∀ i, i < N → Bk wk (V i) (b i) (m i) (c i)) ∧ ∀ j, j < k → ∀ g, b j = some g → ∀ i, i < m j → wk.cell? ⟨g, i, none⟩ = some (.int .u8 (stN j r : Nat))) (fun v _ => N - (intOf v).toNat)
      case atStart => exact ⟨0, by omega, rfl, Alt.refl _ _, HBX.out, fun j hj => by omega⟩
      case round =>
        obtain ⟨k, hk, rfl, ha, hbk, hst⟩ := hrel
        obtain ⟨Y, rfl⟩ : ∃ Y, Y = wr := ⟨wr, rfl⟩
        have HA := Lib.hid ha
        have HK := Lib.hid hbk
        have HST := Lib.hid hst
        have hawr : Alt w Y S := HAX.out.trans ha fun _ _ h => h
        have HAW := Lib.hid hawr
        clear ha hst hawr hbk HBX
        by_cases kN : k < N
        · have kN' : (k : Int) < N := by omega
          have x1 : Y.cell? ⟨gl, k, none⟩ = some (V k) := by
            have h := HC.out k kN
            exact (World.cell?_of_block (HAW.out.block gl (block_lt_of_cell h) HSG.out)).trans h
          go_wp2_with fail
          refine (whole_any (V k) (b k) (m k) (c k) Y (HK.out k kN)).mono ?_
          rintro e w' ⟨rfl, rfl⟩
          clear x1
          go_wp2_with fail
          go_loopw [23] (fun v wi => ∃ i : Nat, i ≤ m k ∧ v = .int .i64 i ∧ Alt Y wi (fun x => b k = some x) ∧ (∀ j, j < N → Bk wi (V j) (b j) (m j) (c j)) ∧ ∀ g, b k = some g → ∀ q, q < i → wi.cell? ⟨g, q, none⟩ = some (.int .u8 (stN k r : Nat))) (fun v _ => m k - (intOf v).toNat)
          case atStart => exact ⟨0, by omega, rfl, Alt.refl _ _, HK.out, fun g _ q hq => by omega⟩
          case round =>
            obtain ⟨i, hi, rfl, ha, hbk, hst⟩ := hrel
            obtain ⟨Z, rfl⟩ : ∃ Z, Z = wr := ⟨wr, rfl⟩
            have x3 : Z.cell? ⟨pr, 0, none⟩ = some (.int .i64 r) := by
              have h1 : Y.cell? ⟨pr, 0, none⟩ = some (.int .i64 r) := (World.cell?_of_block (HA.out.block pr HPS.out HPN.out)).trans HPX.out
              exact (World.cell?_of_block (ha.block pr (block_lt_of_cell h1) (fun e => HPN.out (HSI.out k kN _ e)))).trans h1
            by_cases im : i < m k
            · have im' : (i : Int) < m k := by omega
              have hbkk := hbk k kN
              have hk256 : k < 256 := by omega
              rcases hbkk with ⟨e1, e2, e3, e4⟩ | ⟨g, n, t, f, h1, h2, h3, h4, hn40, h5, h6⟩
              · omega
              · have hic : i < c k := by omega
                have x4 := h6.cell hic
                have x5 := h6.frozen i
                have HA3 := Lib.hid ha
                have HK3 := Lib.hid hbk
                have HST3 := Lib.hid hst
                have hmk := hmm k
                have hprg : pr ≠ g := fun e => HPN.out (by rw [e]; exact HSI.out k kN g h2)
                have h2' := h2
                have H2 := Lib.hid h2'
                have HROW := Lib.hid h6
                clear h1 h2' h3 h4 hn40 h5 h6 ha hbk hst
                rw [h2]
                go_upto_region 10 with fail
                go_region_held3 (fun W => W.cell? ⟨pr, 0, none⟩ = some (.int .i64 r)) (first | exact x3 | exact cell_ne_set (q := ⟨g, i, none⟩) x3 hprg) (first
                  | (go_at_call 61; (refine (whole_any (V k) (some g) (m k) (c k) _ (by rw [← H2.out]; exact HK3.out k kN)).mono ?_); rintro e w1 ⟨rfl, rfl⟩)
                  | (go_at_call 62; (refine (stamped_any k r hk256 r2 _).mono ?_); rintro e w2 ⟨rfl, rfl⟩))
                have hz : Below Z.heap.size Z Z.drew := below_drewN' (Below.refl _ _) 1
                have hfin : Alt Y (Z.setCell ⟨g, i, none⟩ (.int .u8 (stN k r : Nat))).drew (fun x => b k = some x) := (HA3.out.trans (Alt.grown (S := fun x => x = g) (grown_set (p := ⟨g, i, none⟩) (grown_refl Z (some g)) (.inl rfl) (.int .u8 (stN k r : Nat))) (fun x e => by injection e with e; exact e.symm)) (fun x _ e => by rw [e]; exact H2.out)).bel (below_drewN' (Below.refl _ _) 1)
                have hfk : ∀ j, j < N → Bk (Z.setCell ⟨g, i, none⟩ (.int .u8 (stN k r : Nat))).drew (V j) (b j) (m j) (c j) := fun j hj => ((HK3.out j hj).set g i _).keep fun _ _ => rfl
                have hfs : ∀ g', b k = some g' → ∀ q, q < i + 1 → (Z.setCell ⟨g, i, none⟩ (.int .u8 (stN k r : Nat))).drew.cell? ⟨g', q, none⟩ = some (.int .u8 (stN k r : Nat)) := by
                  intro g' e q hq
                  have e2 := H2.out.symm.trans e
                  injection e2 with e2
                  subst e2
                  have hrow := HROW.out.set i (.int .u8 (stN k r : Nat))
                  have hqc : q < c k := by omega
                  have hcl : (Z.setCell ⟨g, i, none⟩ (.int .u8 (stN k r : Nat))).cell? ⟨g, q, none⟩ = _ := hrow.cell hqc
                  by_cases hqi : q = i
                  · rw [if_pos hqi] at hcl
                    exact hcl
                  · have := HST3.out g H2.out q (by omega)
                    have h7 := (HROW.out.cell hqc).symm.trans this
                    injection h7 with h7
                    rw [if_neg hqi, h7] at hcl
                    exact hcl
                have HF1 := Lib.hid hfin
                have HF2 := Lib.hid hfk
                have HF3 := Lib.hid hfs
                clear hz hfin hfk hfs x4 x5 x3
                generalize (Z.setCell ⟨g, i, none⟩ (.int .u8 (stN k r : Nat))).drew = ZZ at *
                go_wp2_with fail
                go_roundw
                case rel =>
                  repeat apply Exists.intro
                  exact ⟨⟨i + 1, by omega, by go_num, by rw [← H2.out]; exact HF1.out, HF2.out, by rw [← H2.out]; exact HF3.out⟩, rfl⟩
                case measure => simp [intOf]; omega
            · obtain rfl : i = m k := by omega
              have hfin : Alt X Z S := HA.out.trans ha fun x _ e => HSI.out k kN x e
              have hfs : ∀ j, j < k + 1 → ∀ g, b j = some g → ∀ i, i < m j → Z.cell? ⟨g, i, none⟩ = some (.int .u8 (stN j r : Nat)) := by
                intro j hj g hg q hq
                by_cases e : j = k
                · rw [e] at hg hq ⊢
                  exact hst g hg q hq
                · have h1 := HST.out j (by omega) g hg q hq
                  exact (World.cell?_of_block (ha.block g (block_lt_of_cell h1) (fun e2 => HD.out j k (by omega) kN e g hg e2))).trans h1
              have HF1 := Lib.hid hfin
              have HF2 := Lib.hid hbk
              have HF3 := Lib.hid hfs
              clear hfin hfs ha hbk hst x3
              go_wp2_with fail
              exact ⟨⟨k + 1, by omega, by go_num, HF1.out, HF2.out, HF3.out⟩, by simp [intOf]; omega⟩
        · obtain rfl : k = N := by omega
          have x3 : Y.cell? ⟨pr, 0, none⟩ = some (.int .i64 r) := (World.cell?_of_block (HA.out.block pr HPS.out HPN.out)).trans HPX.out
          have X3 := Lib.hid x3
          clear x3
          go_wp2_with fail
          go_loopw [37] (fun v wz => ∃ q : Nat, q ≤ k ∧ v = .int .i64 q ∧ Below Y.heap.size Y wz) (fun v _ => k - (intOf v).toNat)
          case atStart => exact ⟨0, by omega, rfl, Below.refl _ _⟩
          case round =>
            obtain ⟨q, hq, rfl, hbl⟩ := hrel
            obtain ⟨Z, rfl⟩ : ∃ Z, Z = wr := ⟨wr, rfl⟩
            have HBL := Lib.hid hbl
            by_cases qk : q < k
            · have qk' : (q : Int) < k := by omega
              have x1 : Z.cell? ⟨gl, q, none⟩ = some (V q) := by
                have h := HC.out q qk
                have h2 : Y.cell? ⟨gl, q, none⟩ = some (V q) := (World.cell?_of_block (HAW.out.block gl (block_lt_of_cell h) HSG.out)).trans h
                exact (hbl.cell (p := ⟨gl, q, none⟩) (block_lt_of_cell h2)).trans h2
              have hq256 : q < 256 := by omega
              have hbz : Bk Z (V q) (b q) (m q) (c q) := (HK.out q qk).keep fun x e => hbl.block x ((HK.out q qk).lt e)
              have hax := (Below.refl Z.heap.size Z).alloc (Nat.le_refl _) (.cells #[.int .i64 q] 3)
              have hbzx : Bk (Z.alloc (.cells #[.int .i64 q] 3)) (V q) (b q) (m q) (c q) := hbz.keep fun x e => hax.block x (hbz.lt e)
              have hyx : Below Y.heap.size Y (Z.alloc (.cells #[.int .i64 q] 3)) := hbl.alloc hbl.size _
              have hpk : (Z.alloc (.cells #[.int .i64 q] 3)).cell? ⟨Z.heap.size, 0, none⟩ = some (.int .i64 q) := by rw [cell_of_row _ _ _ _ _ _ (heap_alloc_new Z _)]; rfl
              clear hbl hax hbz
              go_wp2_with fail
              generalize Z.alloc (.cells #[.int .i64 q] 3) = ZZ at *
              generalize Z.heap.size = pk at *
              have HBZ := Lib.hid hbzx
              have HYX := Lib.hid hyx
              have HPK := Lib.hid hpk
              clear hbzx hyx hpk x1 HBL
              refine (whole_any (V q) (b q) (m q) (c q) ZZ HBZ.out).mono ?_
              rintro e w' ⟨rfl, rfl⟩
              go_wp2_with fail
              have hx3 : ZZ.cell? ⟨pr, 0, none⟩ = some (.int .i64 r) := (HYX.out.cell (p := ⟨pr, 0, none⟩) (block_lt_of_cell X3.out)).trans X3.out
              refine (all_any (b q) (m q) (c q) pk pr q r hq256 r2 (hmm q) ZZ HPK.out hx3 (fun e => ?_) (fun g hg i hi => ?_)).mono ?_
              · rcases HBZ.out with ⟨_, _, h, _⟩ | ⟨g, _, _, _, _, h, _⟩
                · exact h
                · rw [h] at e; cases e
              · have h := HST.out q qk g hg i hi
                exact (HYX.out.cell (p := ⟨g, i, none⟩) (block_lt_of_cell h)).trans h
              rintro e w2 ⟨rfl, hb2⟩
              have HFB := Lib.hid (HYX.out.trans (hb2.mono HYX.out.size))
              clear hb2 hx3
              go_wp2_with fail
              go_roundw
              case rel =>
                first
                | exact ⟨q + 1, by omega, by go_num, HFB.out⟩
                | (repeat apply Exists.intro); exact ⟨⟨q + 1, by omega, by go_num, HFB.out⟩, rfl⟩
              case measure => simp [intOf]; omega
            · obtain rfl : q = k := by omega
              have hfin : Alt w Z S := HAW.out.bel hbl
              have hfk : ∀ i, i < q → Bk Z (V i) (b i) (m i) (c i) := fun i hi => (HK.out i hi).keep fun x e => hbl.block x ((HK.out i hi).lt e)
              have HF1 := Lib.hid hfin
              have HF2 := Lib.hid hfk
              clear hfin hfk hbl
              go_wp2_with fail
              exact ⟨⟨r + 1, by omega, by go_num, HF1.out, HF2.out⟩, by simp [intOf]; omega⟩
    · obtain rfl : r = 2 := by omega
      go_wp2_with fail
      go_ret
      exact ⟨rfl, HA.out⟩
end Go.Proofs.Ytkmjbfednmidbaa
