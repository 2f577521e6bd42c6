/-
  THE WALK OF quillpressref05.With: a block through the fourteen rounds, in rows. Conditions: the table, the words and the block are there.
-/
import Derived.Test.YtmldpamkghdohaaRefA
namespace Go.Proofs.Ytmldpamkghdohaa
open Go.RowKit
set_option linter.unusedSimpArgs false
set_option linter.unusedVariables false

/-- The place in columns of a place in rows, and the other way round. -/
def tr (j : Nat) : Nat := 4 * (j % 4) + j / 4
theorem tr_lt {j : Nat} (h : j < 16) : tr j < 16 := by unfold tr; omega
theorem tr_tr {j : Nat} (h : j < 16) : tr (tr j) = j := by unfold tr; omega
theorem tr_pe : ∀ k, k < 4 → ∀ c, c < 4 → tr (k * 4 + (c + k) % 4) = pe (tr (k * 4 + c)) := by decide
theorem tr_mix : ∀ m, m < 4 → ∀ k, k < 4 → ∀ c, c < 4 → tr ((k + m) % 4 * 4 + c) = tr (k * 4 + c) / 4 * 4 + (tr (k * 4 + c) + m) % 4 := by decide
theorem rtimes_still (a b : Nat) (ha : a < 256) (hb : b < 256) (w : World) :
    Calls Try.prog 71 #[.int .u8 a, .int .u8 b] w fun e w' => e = .returned (.int .u8 (rtm a b)) ∧ w' = w :=
  (rtimes_any a b ha hb w).mono fun _ _ ⟨h, k⟩ => ⟨h, k.symm⟩
/-- What the rows' mixing reads and makes. -/
theorem mix_rows {w : World} {g : Nat} {T : Nat → Nat} (h : w.rowIs g 95 16 (fun j => .int .u8 (T (tr j) : Nat))) (lt : ∀ i, i < 16 → T i < 256) {k c : Nat} (hk : k < 4) (hc : c < 4) :
    ∃ A0 A1 A2 A3 : Nat, A0 < 256 ∧ A1 < 256 ∧ A2 < 256 ∧ A3 < 256 ∧ w.cell? ⟨g, k * 4 + c, none⟩ = some (.int .u8 (A0 : Nat)) ∧ w.cell? ⟨g, (k + 1) % 4 * 4 + c, none⟩ = some (.int .u8 (A1 : Nat)) ∧
      w.cell? ⟨g, (k + 2) % 4 * 4 + c, none⟩ = some (.int .u8 (A2 : Nat)) ∧ w.cell? ⟨g, (k + 3) % 4 * 4 + c, none⟩ = some (.int .u8 (A3 : Nat)) ∧ mixF T 2 3 1 1 (4 * c + k) = rtm 2 A0 ^^^ rtm 3 A1 ^^^ A2 ^^^ A3 := by
  have e0 : tr (k * 4 + c) = 4 * c + k := by unfold tr; omega
  have em : ∀ m, m < 4 → tr ((k + m) % 4 * 4 + c) = (4 * c + k) / 4 * 4 + ((4 * c + k) + m) % 4 := fun m hm => by rw [tr_mix m hm k hk c hc, e0]
  have l0 := lt (4 * c + k) (by omega)
  have l1 := lt ((4 * c + k) / 4 * 4 + ((4 * c + k) + 1) % 4) (by omega)
  have l2 := lt ((4 * c + k) / 4 * 4 + ((4 * c + k) + 2) % 4) (by omega)
  have l3 := lt ((4 * c + k) / 4 * 4 + ((4 * c + k) + 3) % 4) (by omega)
  refine ⟨_, _, _, _, l0, l1, l2, l3, ?_, ?_, ?_, ?_, ?_⟩
  · rw [h.cell (by omega), e0]
  · rw [h.cell (by omega), em 1 (by omega)]
  · rw [h.cell (by omega), em 2 (by omega)]
  · rw [h.cell (by omega), em 3 (by omega)]
  · unfold mixF
    rw [tm_one l2, tm_one l3, rtm_eq (by omega) l0, rtm_eq (by omega) l1, tm_comm (by omega) l0, tm_comm (by omega) l1, show (4 * c + k) / 4 * 4 + (4 * c + k) % 4 = 4 * c + k by omega]
theorem mixT_lt {kb b : Nat → Nat} (lk : ∀ i, i < 240 → kb i < 256) (lb : ∀ i, i < 16 → b i < 256) {n : Nat} (hn : n ≤ 14) : ∀ i, i < 16 → mixF (encT (encN kb b n)) 2 3 1 1 i < 256 := by
  have l : ∀ i, encT (encN kb b n) i < 256 := fun i => sb_lt (encN_lt lk lb n hn _ (pe_lt i))
  intro i hi
  exact xor_lt8 (xor_lt8 (xor_lt8 (tm_lt _ _ (l _)) (tm_lt _ _ (l _))) (tm_lt _ _ (l _))) (tm_lt _ _ (l _))
theorem z16_cell {i : Nat} (h : i < 16) : z16[i]? = some (.int .u8 ((0 : Nat) : Int)) := by
  rw [show z16 = Array.replicate 16 (.int .u8 0) from rfl]
  simp [h]
theorem kf_tr (kb : Nat → Nat) (r j : Nat) : kf kb r j = kb (r * 16 + tr j) := by
  unfold kf tr
  rw [show 4 * (4 * r + j % 4) + j / 4 = r * 16 + (4 * (j % 4) + j / 4) by omega]
theorem row_tr {w : World} {g t k : Nat} {a b : Nat → Nat} (hk : k < 16) (h : w.rowIs g t 16 (fun j => .int .u8 (upd k a b (tr j) : Nat))) :
    (w.setCell ⟨g, tr k, none⟩ (.int .u8 (a k : Nat))).rowIs g t 16 (fun j => .int .u8 (upd (k + 1) a b (tr j) : Nat)) := by
  refine (h.set (tr k) (.int .u8 (a k : Nat))).congr ?_
  intro i hi
  by_cases e : i = tr k
  · subst e
    rw [if_pos rfl, tr_tr hk, upd_lt a b (by omega)]
  · have e2 : tr i ≠ k := fun e2 => e (by rw [← e2, tr_tr hi])
    rw [if_neg e]
    rcases Nat.lt_or_ge (tr i) k with h1 | h1
    · rw [upd_lt a b h1, upd_lt a b (by omega)]
    · rw [upd_ge a b h1, upd_ge a b (by omega)]

set_option maxRecDepth 100000 in
set_option maxHeartbeats 8000000 in
theorem with_any (gt ct gb ob cb : Nat) (v : Value) (kb b : Nat → Nat) (w : World) (ht : ∀ i, i < 256 → w.cell? ⟨gt, i, none⟩ = some (.int .u8 (sb i : Nat))) (hgt : gt < w.heap.size)
    (hb : ∀ i, i < 16 → w.cell? ⟨gb, ob + i, none⟩ = some (.int .u8 (b i : Nat))) (hgb : gb < w.heap.size) (lb : ∀ i, i < 16 → b i < 256) (lk : ∀ i, i < 240 → kb i < 256) (hw : Wd w v kb 60) :
    Calls Try.prog 50 #[.slice (some ⟨gt, 0, none⟩) 256 ct, v, .slice (some ⟨gb, ob, none⟩) 16 cb] w fun e w' => ∃ v', e = .returned v' ∧ Ow w' w.heap.size v' ((List.range 16).map (encN kb b 14)) ∧ Below w.heap.size w w' := by
  have HT := Lib.hid ht
  have HB := Lib.hid hb
  have HW := Lib.hid hw
  clear ht hb hw
  go_enter Try.func50, Try.ntmps50
  go_wp2_with fail
  have hg0 := (Below.refl w.heap.size w).alloc (Nat.le_refl _) (.cells z16 95)
  have hr0 : (w.alloc (.cells z16 95)).rowIs w.heap.size 95 16 (fun j => .int .u8 (0 : Nat)) := ⟨z16, heap_alloc_new w _, rfl, fun i hi => z16_cell hi⟩
  change Code.wp _ _ _ _ (w.alloc (.cells z16 95))
  generalize w.alloc (.cells z16 95) = W at *
  have HG0 := Lib.hid hg0
  have HR0 := Lib.hid hr0
  clear hg0 hr0
  go_loopw [8] (fun i wr => ∃ k : Nat, k ≤ 16 ∧ i = .int .i64 k ∧ wr.rowIs w.heap.size 95 16 (fun j => .int .u8 (upd k b (fun _ => 0) (tr j) : Nat)) ∧ Below w.heap.size w wr) (fun i _ => 16 - (intOf i).toNat)
  case atStart => exact ⟨0, by omega, rfl, HR0.out.congr (fun i _ => by rw [upd_zero]), HG0.out⟩
  case round =>
    clear HG0 HR0
    obtain ⟨k, hk, rfl, hrw, hbl⟩ := hrel
    by_cases e0 : k < 16
    · have c1 : wr.cell? ⟨gb, ob + k, none⟩ = some (.int .u8 (b k : Nat)) := (hbl.cell hgb).trans (HB.out k e0)
      have c2 := hrw.frozen (k % 4 * 4 + k / 4)
      have c3 := hrw.cell (show k % 4 * 4 + k / 4 < 16 by omega)
      have t1 : (k : Int).tmod 4 = (k : Int) % 4 := Int.tmod_eq_emod_of_nonneg (by omega)
      have t2 : IntKind.i64.wrap ((k : Int) / 4) = (k : Int) / 4 := by simp [IntKind.wrap, IntKind.signed, IntKind.bits]; omega
      have b1 : (k : Int) < 16 := by omega
      have b2 : ((k : Int) % 4) < 4 := by omega
      have b3 : ((k : Int) / 4) < 4 := by omega
      have b4 : ((k : Int) % 4).toNat = k % 4 := by omega
      have b5 : ((k : Int) / 4).toNat = k / 4 := by omega
      have b6 : 0 ≤ ((k : Int) % 4) := by omega
      have b7 : 0 ≤ ((k : Int) / 4) := by omega
      have HR := Lib.hid hrw
      have HBL := Lib.hid hbl
      clear hrw hbl
      go_wp2_with fail
      refine wp_region_still_tail 10 (by kernel_rfl) (by kernel_rfl) ?_
      simp only [List.take_succ_cons, List.take_zero, List.drop_succ_cons, List.drop_zero]
      repeat still_step
      try refine wpStill_nil ?_
      change wpList _ _ _ _ _ wr.drew
      go_wp2_with fail
      go_roundw
      case rel =>
        refine ⟨k + 1, by omega, by go_num, ?_, ?_⟩
        · have := row_tr (a := b) (b := fun _ => 0) e0 HR.out.drew
          rwa [show tr k = k % 4 * 4 + k / 4 by unfold tr; omega] at this
        · exact HBL.out.drew.setCell (Nat.le_refl _) _
      case measure => simp [intOf]; omega
    · obtain rfl : k = 16 := by omega
      obtain ⟨cs, hb2, hn2, hc2⟩ := hrw
      have hc3 : ∀ i, i < 16 → cs[i]? = some (.int .u8 (b (tr i) : Nat)) := fun i hi => by
        refine (hc2 i hi).trans ?_
        show some (Value.int .u8 ((upd 16 b (fun _ => 0) (tr i) : Nat) : Int)) = _
        rw [upd_lt _ _ (tr_lt hi)]
      have HB2 := Lib.hid hb2
      have HN2 := Lib.hid hn2
      have HC3 := Lib.hid hc3
      have HBL := Lib.hid hbl
      clear hb2 hn2 hc2 hc3 hbl
      go_wp2_with (refine wpList_load_row rfl 95 (.tmp 7) rfl w.heap.size rfl 95 cs (0, 0) _ HB2.out Try.underlying95 rfl (by rw [HN2.out]; exact size4x4) ?_)
      refine (keyed_any v kb cs (fun j => b (tr j)) 0 (by omega) wr HN2.out HC3.out (fun i hi => lb _ (tr_lt hi)) lk (HW.out.below (HBL.out.mono (by omega)))).mono ?_
      rintro e w1 ⟨cs1, rfl, hn1, hc1, hb1⟩
      have hc1' : ∀ i, i < 16 → cs1[i]? = some (.int .u8 (encN kb b 0 (tr i) : Nat)) := fun i hi => by
        rw [hc1 i hi, kf_tr, Nat.zero_mul, Nat.zero_add]
        rfl
      have hz1 : w1.heap[w.heap.size]? = some (.cells cs 95 (0, 0)) := (hb1.block _ (lt_of_block HB2.out)).trans HB2.out
      have hl1 := lt_of_block hz1
      have HC1 := Lib.hid hc1'
      have HN1 := Lib.hid hn1
      have HZ1 := Lib.hid hz1
      have HBL1 : Hid (Below w.heap.size w w1) := HBL.out.trans (hb1.mono HBL.out.size)
      clear hc1 hc1' hz1 hn1 hb1 HBL HC3
      go_wp2_with (refine wpList_store_row rfl 95 (.tmp 7) (.tmp 33) rfl w.heap.size cs1 rfl rfl 95 cs HZ1.out (by rw [HN1.out]; exact size4x4) (by rw [HN1.out, HN2.out]) (bytes_oneCell HN1.out HC1.out) ?_)
      have hr1 : (w1.setRow w.heap.size cs1).rowIs w.heap.size 95 16 (fun j => .int .u8 (encN kb b 0 (tr j) : Nat)) := ⟨cs1, setRow_heap _ _ _ _ _ _ HZ1.out, HN1.out, HC1.out⟩
      have hb1 := below_setRow HBL1.out (Nat.le_refl _) cs1
      generalize w1.setRow w.heap.size cs1 = W1 at *
      have HR1 := Lib.hid hr1
      have HB1 := Lib.hid hb1
      clear hr1 hb1 HC1 HN1 HZ1 HBL1 HN2 HB2 hl1
      go_loopw [9] (fun i wr => ∃ n : Nat, n ≤ 14 ∧ i = .int .i64 ((n : Int) + 1) ∧ wr.rowIs w.heap.size 95 16 (fun j => .int .u8 (encN kb b n (tr j) : Nat)) ∧ Below w.heap.size w wr) (fun i _ => 15 - (intOf i).toNat)
      case atStart => exact ⟨0, by omega, rfl, HR1.out, HB1.out⟩
      case round =>
        clear HR1 HB1
        obtain ⟨n, hn, rfl, hrw, hbl⟩ := hrel
        have HR := Lib.hid hrw
        have HBL := Lib.hid hbl
        clear hrw hbl
        by_cases e1 : n < 14
        · have b1 : (n : Int) + 1 ≤ 14 := by omega
          go_wp2_with fail
          have hs1 := World.rowIs.alloc HR.out (.cells z16 95)
          have hb1 := HBL.out.alloc HBL.out.size (.cells z16 95)
          have ht1 : (wr.alloc (.cells z16 95)).rowIs wr.heap.size 95 16 (fun j => .int .u8 (0 : Nat)) := ⟨z16, heap_alloc_new wr _, rfl, fun i hi => z16_cell hi⟩
          have hne : w.heap.size < wr.heap.size := HR.out.lt
          have hle : w.heap.size ≤ wr.heap.size := by omega
          change Code.wp _ _ _ _ (wr.alloc (.cells z16 95))
          generalize wr.alloc (.cells z16 95) = V at *
          generalize wr.heap.size = g2 at *
          have HS1 := Lib.hid hs1
          have HB1 := Lib.hid hb1
          have HT1 := Lib.hid ht1
          clear hs1 hb1 ht1 HR HBL
          go_loopw [11] (fun i wr => ∃ k : Nat, k ≤ 4 ∧ i = .int .i64 k ∧ wr.rowIs g2 95 16 (fun j => .int .u8 (upd (k * 4) (fun j => encT (encN kb b n) (tr j)) (fun _ => 0) j : Nat)) ∧ V.grownBy wr (some g2)) (fun i _ => 4 - (intOf i).toNat)
          case atStart => exact ⟨0, by omega, rfl, HT1.out.congr (fun i _ => by rw [Nat.zero_mul, upd_zero]), grown_refl _ _⟩
          case round =>
            obtain ⟨k, hk, rfl, hrw, hg⟩ := hrel
            have HR := Lib.hid hrw
            have HG := Lib.hid hg
            clear hrw hg
            by_cases e2 : k < 4
            · have b4 : (k : Int) < 4 := by omega
              go_wp2_with fail
              obtain ⟨wo, rfl⟩ : ∃ wo : World, wo = wr := ⟨_, rfl⟩
              go_loopw [12] (fun i wr => ∃ c : Nat, c ≤ 4 ∧ i = .int .i64 c ∧ wr.rowIs g2 95 16 (fun j => .int .u8 (upd (k * 4 + c) (fun j => encT (encN kb b n) (tr j)) (fun _ => 0) j : Nat)) ∧ V.grownBy wr (some g2)) (fun i _ => 4 - (intOf i).toNat)
              case atStart => exact ⟨0, by omega, rfl, HR.out, HG.out⟩
              case round =>
                clear HR HG
                obtain ⟨c, hc, rfl, hrw, hg⟩ := hrel
                by_cases e3 : c < 4
                · have hx : tr (k * 4 + (c + k) % 4) = pe (tr (k * 4 + c)) := tr_pe k e2 c e3
                  have hl : encN kb b n (pe (tr (k * 4 + c))) < 256 := encN_lt lk lb n (by omega) _ (pe_lt _)
                  have c1 : wr.cell? ⟨w.heap.size, k * 4 + (c + k) % 4, none⟩ = some (.int .u8 (encN kb b n (pe (tr (k * 4 + c))) : Nat)) := by
                    rw [(grown_row hg HS1.out (by omega)).cell (by omega), hx]
                  have c2 : wr.cell? ⟨gt, encN kb b n (pe (tr (k * 4 + c))), none⟩ = some (.int .u8 (encT (encN kb b n) (tr (k * 4 + c)) : Nat)) := by
                    rw [(below_of_grown HB1.out hg HB1.out.size hle).cell hgt, HT.out _ hl]
                    rfl
                  have c3 := hrw.frozen (k * 4 + c)
                  have c4 := hrw.cell (show k * 4 + c < 16 by omega)
                  have t1 : IntKind.i64.wrap ((c : Int) + k) = c + k := by simp [IntKind.wrap, IntKind.signed, IntKind.bits]; omega
                  have t2 : ((c : Int) + k).tmod 4 = ((c : Int) + k) % 4 := Int.tmod_eq_emod_of_nonneg (by omega)
                  have b5 : (c : Int) < 4 := by omega
                  have b6 : ((c : Int) + k) % 4 < 4 := by omega
                  have b7 : 0 ≤ ((c : Int) + k) % 4 := by omega
                  have b8 : (((c : Int) + k) % 4).toNat = (c + k) % 4 := by omega
                  have b9 : ((encN kb b n (pe (tr (k * 4 + c))) : Nat) : Int) < 256 := by omega
                  have HR := Lib.hid hrw
                  have HG := Lib.hid hg
                  clear hrw hg hx hl
                  go_wp2_with fail
                  refine wp_region_still_tail 15 (by kernel_rfl) (by kernel_rfl) ?_
                  simp only [List.take_succ_cons, List.take_zero, List.drop_succ_cons, List.drop_zero]
                  repeat still_step
                  try refine wpStill_nil ?_
                  change wpList _ _ _ _ _ wr.drew
                  go_wp2_with fail
                  go_roundw
                  case rel =>
                    refine ⟨c + 1, by omega, by go_num, ?_, ?_⟩
                    · exact row_upd (a := fun j => encT (encN kb b n) (tr j)) HR.out.drew
                    · exact grown_set (grown_drew HG.out) (.inl rfl) _
                  case measure => simp [intOf]; omega
                · obtain rfl : c = 4 := by omega
                  have HR := Lib.hid hrw
                  have HG := Lib.hid hg
                  clear hrw hg
                  go_wp2_with fail
                  go_roundw
                  case rel => exact ⟨k + 1, by omega, by go_num, by rw [show (k + 1) * 4 = k * 4 + 4 by omega]; exact HR.out, HG.out⟩
                  case measure => simp [intOf]; omega
            · obtain rfl : k = 4 := by omega
              obtain ⟨ts, hb3, hn3, hc3⟩ := HR.out
              have hc3' : ∀ i, i < 16 → ts[i]? = some (.int .u8 (encT (encN kb b n) (tr i) : Nat)) := fun i hi => by
                refine (hc3 i hi).trans ?_
                show some (Value.int .u8 ((upd (4 * 4) (fun j => encT (encN kb b n) (tr j)) (fun _ => 0) i : Nat) : Int)) = _
                rw [upd_lt _ _ (by omega)]
              obtain ⟨ss, hb4, hn4, hc4⟩ := grown_row HG.out HS1.out (by omega)
              have hb5 := below_of_grown HB1.out HG.out HB1.out.size hle
              have HB3 := Lib.hid hb3
              have HN3 := Lib.hid hn3
              have HC3 := Lib.hid hc3'
              have HB4 := Lib.hid hb4
              have HN4 := Lib.hid hn4
              have HB5 := Lib.hid hb5
              clear HT1 HG HR hb3 hn3 hc3 hc3' hb4 hn4 hc4 hb5 HS1 HB1
              go_wp2_with (first
                | (refine wpList_load_row rfl 95 (.tmp 10) rfl g2 rfl 95 ts (0, 0) _ HB3.out Try.underlying95 rfl (by rw [HN3.out]; exact size4x4) ?_)
                | (refine wpList_store_row rfl 95 (.tmp 7) (.tmp 61) rfl w.heap.size ts rfl rfl 95 ss HB4.out (by rw [HN3.out]; exact size4x4) (by rw [HN3.out, HN4.out]) (bytes_oneCell HN3.out HC3.out) ?_))
              have hs2 : (wr.setRow w.heap.size ts).rowIs w.heap.size 95 16 (fun j => .int .u8 (encT (encN kb b n) (tr j) : Nat)) := ⟨ts, setRow_heap _ _ _ _ _ _ HB4.out, HN3.out, HC3.out⟩
              have ht2 : (wr.setRow w.heap.size ts).rowIs g2 95 16 (fun j => .int .u8 (encT (encN kb b n) (tr j) : Nat)) := ⟨ts, (setRow_other _ _ _ _ (by omega)).trans HB3.out, HN3.out, HC3.out⟩
              have hb2 := below_setRow HB5.out (Nat.le_refl _) ts
              generalize wr.setRow w.heap.size ts = X at *
              have HS2 := Lib.hid hs2
              have HT2 := Lib.hid ht2
              have HB2 := Lib.hid hb2
              clear hs2 ht2 hb2 HB3 HN3 HC3 HB4 HN4 HB5
              by_cases e3 : n + 1 < 14
              · have b2 : (n : Int) + 1 < 14 := by omega
                go_loopw [13] (fun i wr => ∃ c : Nat, c ≤ 4 ∧ i = .int .i64 c ∧ wr.rowIs w.heap.size 95 16 (fun j => .int .u8 (upd (4 * c) (mixF (encT (encN kb b n)) 2 3 1 1) (encT (encN kb b n)) (tr j) : Nat)) ∧ X.grownBy wr (some w.heap.size)) (fun i _ => 4 - (intOf i).toNat)
                case atStart => exact ⟨0, by omega, rfl, HS2.out.congr (fun i _ => by rw [Nat.mul_zero, upd_zero]), grown_refl _ _⟩
                case round =>
                  clear HS2
                  obtain ⟨c, hc, rfl, hrw, hg⟩ := hrel
                  have HR := Lib.hid hrw
                  have HG := Lib.hid hg
                  clear hrw hg
                  by_cases e4 : c < 4
                  · have b4 : (c : Int) < 4 := by omega
                    go_wp2_with fail
                    obtain ⟨wo, rfl⟩ : ∃ wo : World, wo = wr := ⟨_, rfl⟩
                    go_loopw [14] (fun i wr => ∃ k : Nat, k ≤ 4 ∧ i = .int .i64 k ∧ wr.rowIs w.heap.size 95 16 (fun j => .int .u8 (upd (4 * c + k) (mixF (encT (encN kb b n)) 2 3 1 1) (encT (encN kb b n)) (tr j) : Nat)) ∧ X.grownBy wr (some w.heap.size)) (fun i _ => 4 - (intOf i).toNat)
                    case atStart => exact ⟨0, by omega, rfl, HR.out, HG.out⟩
                    case round =>
                      clear HR HG
                      obtain ⟨k, hk, rfl, hrw, hg⟩ := hrel
                      by_cases e5 : k < 4
                      · obtain ⟨A0, A1, A2, A3, l0, l1, l2, l3, q0, q1, q2, q3, hm⟩ := mix_rows (grown_row hg HT2.out (by omega)) (fun i hi => sb_lt (encN_lt lk lb n (by omega) _ (pe_lt _))) e5 e4
                        have HM := Lib.hid hm
                        have r0 : rtm 2 A0 < 256 := by rw [rtm_eq (by omega) l0]; exact tm_lt _ _ (by omega)
                        have r1 : rtm 3 A1 < 256 := by rw [rtm_eq (by omega) l1]; exact tm_lt _ _ (by omega)
                        have K1 : bits BinOp.xor IntKind.u8 (rtm 2 A0 : Int) (rtm 3 A1 : Int) = ((rtm 2 A0 ^^^ rtm 3 A1 : Nat) : Int) := u8_xor_nat _ _ r0 r1
                        have K2 : bits BinOp.xor IntKind.u8 ((rtm 2 A0 ^^^ rtm 3 A1 : Nat) : Int) (A2 : Int) = ((rtm 2 A0 ^^^ rtm 3 A1 ^^^ A2 : Nat) : Int) := u8_xor_nat _ _ (xor_lt8 r0 r1) l2
                        have K3 : bits BinOp.xor IntKind.u8 ((rtm 2 A0 ^^^ rtm 3 A1 ^^^ A2 : Nat) : Int) (A3 : Int) = ((rtm 2 A0 ^^^ rtm 3 A1 ^^^ A2 ^^^ A3 : Nat) : Int) := u8_xor_nat _ _ (xor_lt8 (xor_lt8 r0 r1) l2) l3
                        have c3 := hrw.frozen (k * 4 + c)
                        have c4 := hrw.cell (show k * 4 + c < 16 by omega)
                        have b5 : (k : Int) < 4 := by omega
                        have s1 : IntKind.i64.wrap ((k : Int) + 1) = k + 1 := by simp [IntKind.wrap, IntKind.signed, IntKind.bits]; omega
                        have s2 : IntKind.i64.wrap ((k : Int) + 2) = k + 2 := by simp [IntKind.wrap, IntKind.signed, IntKind.bits]; omega
                        have s3 : IntKind.i64.wrap ((k : Int) + 3) = k + 3 := by simp [IntKind.wrap, IntKind.signed, IntKind.bits]; omega
                        have t1 : ((k : Int) + 1).tmod 4 = ((k : Int) + 1) % 4 := Int.tmod_eq_emod_of_nonneg (by omega)
                        have t2 : ((k : Int) + 2).tmod 4 = ((k : Int) + 2) % 4 := Int.tmod_eq_emod_of_nonneg (by omega)
                        have t3 : ((k : Int) + 3).tmod 4 = ((k : Int) + 3) % 4 := Int.tmod_eq_emod_of_nonneg (by omega)
                        have x1 : ((k : Int) + 1) % 4 < 4 := by omega
                        have x2 : ((k : Int) + 2) % 4 < 4 := by omega
                        have x3 : ((k : Int) + 3) % 4 < 4 := by omega
                        have y1 : 0 ≤ ((k : Int) + 1) % 4 := by omega
                        have y2 : 0 ≤ ((k : Int) + 2) % 4 := by omega
                        have y3 : 0 ≤ ((k : Int) + 3) % 4 := by omega
                        have z1 : (((k : Int) + 1) % 4).toNat = (k + 1) % 4 := by omega
                        have z2 : (((k : Int) + 2) % 4).toNat = (k + 2) % 4 := by omega
                        have z3 : (((k : Int) + 3) % 4).toNat = (k + 3) % 4 := by omega
                        have HR := Lib.hid hrw
                        have HG := Lib.hid hg
                        clear hrw hg hm
                        go_wp2_with fail
                        refine wp_region_still_tail 35 (by kernel_rfl) (by kernel_rfl) ?_
                        simp only [List.take_succ_cons, List.take_zero, List.drop_succ_cons, List.drop_zero]
                        repeat still_step
                        still_call (rtimes_still 2 A0 (by omega) l0 _)
                        repeat still_step
                        still_call (rtimes_still 3 A1 (by omega) l1 _)
                        repeat still_step
                        try refine wpStill_nil ?_
                        change wpList _ _ _ _ _ wr.drew
                        go_wp2_with fail
                        go_roundw
                        case rel =>
                          refine ⟨k + 1, by omega, by go_num, ?_, ?_⟩
                          · have := row_tr (a := mixF (encT (encN kb b n)) 2 3 1 1) (b := encT (encN kb b n)) (show 4 * c + k < 16 by omega) HR.out.drew
                            rwa [show tr (4 * c + k) = k * 4 + c by unfold tr; omega, HM.out] at this
                          · exact grown_set (grown_drew HG.out) (.inl rfl) _
                        case measure => simp [intOf]; omega
                      · obtain rfl : k = 4 := by omega
                        have HR := Lib.hid hrw
                        have HG := Lib.hid hg
                        clear hrw hg
                        go_wp2_with fail
                        go_roundw
                        case rel => exact ⟨c + 1, by omega, by go_num, by rw [show 4 * (c + 1) = 4 * c + 4 by omega]; exact HR.out, HG.out⟩
                        case measure => simp [intOf]; omega
                  · obtain rfl : c = 4 := by omega
                    obtain ⟨ss, hb3, hn3, hc3⟩ := HR.out
                    have hc3' : ∀ i, i < 16 → ss[i]? = some (.int .u8 (mixF (encT (encN kb b n)) 2 3 1 1 (tr i) : Nat)) := fun i hi => by
                      refine (hc3 i hi).trans ?_
                      show some (Value.int .u8 ((upd (4 * 4) (mixF (encT (encN kb b n)) 2 3 1 1) (encT (encN kb b n)) (tr i) : Nat) : Int)) = _
                      rw [upd_lt _ _ (tr_lt hi)]
                    have hb5 := below_of_grown HB2.out HG.out HB2.out.size (Nat.le_refl _)
                    have HB3 := Lib.hid hb3
                    have HN3 := Lib.hid hn3
                    have HC3 := Lib.hid hc3'
                    have HB5 := Lib.hid hb5
                    clear hb3 hn3 hc3 hc3' hb5 HR HG HB2 HT2
                    go_wp2_with (refine wpList_load_row rfl 95 (.tmp 7) rfl w.heap.size rfl 95 ss (0, 0) _ HB3.out Try.underlying95 rfl (by rw [HN3.out]; exact size4x4) ?_)
                    refine (keyed_any v kb ss (fun j => mixF (encT (encN kb b n)) 2 3 1 1 (tr j)) (n + 1) (by omega) wr HN3.out HC3.out (fun i hi => mixT_lt lk lb (by omega) _ (tr_lt hi)) lk (HW.out.below (HB5.out.mono (by omega)))).mono ?_
                    rintro e w3 ⟨cs3, rfl, hn3, hc3, hb3⟩
                    have hc3' : ∀ i, i < 16 → cs3[i]? = some (.int .u8 (encN kb b (n + 1) (tr i) : Nat)) := fun i hi => by
                      rw [hc3 i hi, kf_tr]
                      show _ = some (Value.int .u8 ((encS kb (n + 1) (encN kb b n) (tr i) : Nat) : Int))
                      unfold encS
                      rw [if_pos e3]
                    have hz3 : w3.heap[w.heap.size]? = some (.cells ss 95 (0, 0)) := (hb3.block _ (lt_of_block HB3.out)).trans HB3.out
                    have HC4 := Lib.hid hc3'
                    have HN4 := Lib.hid hn3
                    have HZ4 := Lib.hid hz3
                    have HB6 : Hid (Below w.heap.size w w3) := HB5.out.trans (hb3.mono HB5.out.size)
                    clear hc3 hc3' hz3 hn3 hb3 HB5 HC3
                    go_wp2_with (refine wpList_store_row rfl 95 (.tmp 7) (.tmp 112) rfl w.heap.size cs3 rfl rfl 95 ss HZ4.out (by rw [HN4.out]; exact size4x4) (by rw [HN4.out, HN3.out]) (bytes_oneCell HN4.out HC4.out) ?_)
                    go_roundw
                    case rel => exact ⟨(n + 1), by omega, by go_num, ⟨cs3, setRow_heap _ _ _ _ _ _ HZ4.out, HN4.out, HC4.out⟩, below_setRow HB6.out (Nat.le_refl _) _⟩
                    case measure => simp [intOf]; omega
              · obtain rfl : n = 13 := by omega
                go_loopw [13] (fun i wr => i = .int .i64 0 ∧ wr = X) (fun _ _ => 0)
                case atStart => exact ⟨rfl, rfl⟩
                case round =>
                  obtain ⟨rfl, rfl⟩ := hrel
                  obtain ⟨ss, hb3, hn3, hc3⟩ := HS2.out
                  have hc3' : ∀ i, i < 16 → ss[i]? = some (.int .u8 (encT (encN kb b 13) (tr i) : Nat)) := fun i hi => by
                    refine (hc3 i hi).trans ?_
                    rfl
                  have hb5 := HB2.out
                  have HB3 := Lib.hid hb3
                  have HN3 := Lib.hid hn3
                  have HC3 := Lib.hid hc3'
                  have HB5 := Lib.hid hb5
                  clear hb3 hn3 hc3 hc3' hb5 HS2 HB2 HT2
                  go_wp2_with (refine wpList_load_row rfl 95 (.tmp 7) rfl w.heap.size rfl 95 ss (0, 0) _ HB3.out Try.underlying95 rfl (by rw [HN3.out]; exact size4x4) ?_)
                  refine (keyed_any v kb ss (fun j => encT (encN kb b 13) (tr j)) 14 (by omega) wr HN3.out HC3.out (fun i hi => (fun i _ => sb_lt (encN_lt lk lb 13 (by omega) _ (pe_lt i)) : ∀ i, i < 16 → encT (encN kb b 13) i < 256) _ (tr_lt hi)) lk (HW.out.below (HB5.out.mono (by omega)))).mono ?_
                  rintro e w3 ⟨cs3, rfl, hn3, hc3, hb3⟩
                  have hc3' : ∀ i, i < 16 → cs3[i]? = some (.int .u8 (encN kb b 14 (tr i) : Nat)) := fun i hi => by
                    rw [hc3 i hi, kf_tr]
                    show _ = some (Value.int .u8 ((encS kb 14 (encN kb b 13) (tr i) : Nat) : Int))
                    unfold encS
                    rw [if_neg (by omega)]
                  have hz3 : w3.heap[w.heap.size]? = some (.cells ss 95 (0, 0)) := (hb3.block _ (lt_of_block HB3.out)).trans HB3.out
                  have HC4 := Lib.hid hc3'
                  have HN4 := Lib.hid hn3
                  have HZ4 := Lib.hid hz3
                  have HB6 : Hid (Below w.heap.size w w3) := HB5.out.trans (hb3.mono HB5.out.size)
                  clear hc3 hc3' hz3 hn3 hb3 HB5 HC3
                  go_wp2_with (refine wpList_store_row rfl 95 (.tmp 7) (.tmp 112) rfl w.heap.size cs3 rfl rfl 95 ss HZ4.out (by rw [HN4.out]; exact size4x4) (by rw [HN4.out, HN3.out]) (bytes_oneCell HN4.out HC4.out) ?_)
                  go_roundw
                  case rel => exact ⟨14, by omega, by go_num, ⟨cs3, setRow_heap _ _ _ _ _ _ HZ4.out, HN4.out, HC4.out⟩, below_setRow HB6.out (Nat.le_refl _) _⟩
                  case measure => first | (simp [intOf]; done) | (simp [intOf]; omega)
        · obtain rfl : n = 14 := by omega
          have hz := HR.out.lt
          go_wp2_with fail
          obtain ⟨wo, rfl⟩ : ∃ wo : World, wo = wr := ⟨_, rfl⟩
          go_loopw [15, 16] (fun v i wr => ∃ k : Nat, k ≤ 16 ∧ i = .int .i64 k ∧ Ow wr (w.heap.size + 1) v ((List.range k).map (encN kb b 14)) ∧ wr.rowIs w.heap.size 95 16 (fun j => .int .u8 (encN kb b 14 (tr j) : Nat)) ∧ Below w.heap.size w wr ∧ w.heap.size < wr.heap.size) (fun _ i _ => 16 - (intOf i).toNat)
          case atStart => exact ⟨0, by omega, rfl, Ow.nil _ _, HR.out, HBL.out, hz⟩
          case round =>
            clear HR HBL hz
            obtain ⟨k, hk, rfl, ho, hr, hb, hz⟩ := hrel
            have HO := Lib.hid ho
            have HR := Lib.hid hr
            have HB := Lib.hid hb
            clear ho hr hb
            by_cases e0 : k < 16
            · have c1 : wr.cell? ⟨w.heap.size, k % 4 * 4 + k / 4, none⟩ = some (.int .u8 (encN kb b 14 k : Nat)) := by
                rw [HR.out.cell (by omega), show k % 4 * 4 + k / 4 = tr k by unfold tr; omega, tr_tr e0]
              have t1 : (k : Int).tmod 4 = (k : Int) % 4 := Int.tmod_eq_emod_of_nonneg (by omega)
              have t2 : IntKind.i64.wrap ((k : Int) / 4) = (k : Int) / 4 := by simp [IntKind.wrap, IntKind.signed, IntKind.bits]; omega
              have b1 : (k : Int) < 16 := by omega
              have b2 : ((k : Int) % 4) < 4 := by omega
              have b3 : ((k : Int) / 4) < 4 := by omega
              have b4 : ((k : Int) % 4).toNat = k % 4 := by omega
              have b5 : ((k : Int) / 4).toNat = k / 4 := by omega
              have b6 : 0 ≤ ((k : Int) % 4) := by omega
              have b7 : 0 ≤ ((k : Int) / 4) := by omega
              have hl := encN_lt lk lb 14 (by omega) k e0
              go_wp2_with (at_builtin; refine append_new (.tmp 117) (.tmp 125) rfl rfl _ _ _ (encN kb b 14 k) rfl rfl HO.out rfl hl (by simp; omega) (by omega) ?_; intro v3 w3 ho3 hg3 ha3)
              have HO3 := Lib.hid ho3
              have HR3 : Hid (w3.rowIs w.heap.size 95 16 (fun j => .int .u8 (encN kb b 14 (tr j) : Nat))) := HR.out.of_block (hg3.block _ hz (by intro e; have := (HO.out.lt _ e.symm).1; omega))
              have HB3 : Hid (Below w.heap.size w w3) := below_of_append HB.out HO.out hg3 (by omega) (by omega)
              have hz3 : w.heap.size < w3.heap.size := Nat.lt_of_lt_of_le hz hg3.size
              clear ho3 hg3 ha3 HO HR HB hl
              go_wp2_with fail
              go_roundw
              case rel =>
                have HO4 : Ow w3 (w.heap.size + 1) v3 ((List.range (k + 1)).map (encN kb b 14)) := by rw [range_snoc]; exact HO3.out
                first
                  | exact ⟨k + 1, by omega, by go_num, HO4, HR3.out, HB3.out, hz3⟩
                  | ((repeat apply Exists.intro); refine ⟨⟨k + 1, by omega, ?_, HO4, HR3.out, HB3.out, hz3⟩, rfl⟩; go_num)
              case measure => simp [intOf]; omega
            · obtain rfl : k = 16 := by omega
              go_wp2_with fail
              go_ret
              exact ⟨_, rfl, HO.out.mono (by omega), HB.out⟩
end Go.Proofs.Ytmldpamkghdohaa
