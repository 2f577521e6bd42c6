/-
  THE WALK OF quillpressref05.keyed: a block in rows, xor a round key. Conditions: the words' cells are there.
-/
import Derived.Test.YtmldpamkghdohaaAesA
import Derived.Test.YtmldpamkghdohaaAesInv
import Derived.Test.YtmldpamkghdohaaArr
import Derived.Laws.Tables
import Derived.Laws.CopyOwn
namespace Go.Proofs.Ytmldpamkghdohaa
open Go.RowKit
set_option linter.unusedSimpArgs false
set_option linter.unusedVariables false

/-- v is a slice of n words of four bytes each: kb's bytes in their order. -/
def Wd (w : World) (v : Value) (kb : Nat → Nat) (n : Nat) : Prop := ∃ g cap, v = .slice (some ⟨g, 0, none⟩) n cap ∧ g < w.heap.size ∧
  ∀ i, i < n → ∃ gi oi ci, w.cell? ⟨g, i, none⟩ = some (.slice (some ⟨gi, oi, none⟩) 4 ci) ∧ gi < w.heap.size ∧ ∀ k, k < 4 → w.cell? ⟨gi, oi + k, none⟩ = some (.int .u8 (kb (4 * i + k) : Nat))
theorem Wd.below {w w' : World} {v : Value} {kb : Nat → Nat} {n : Nat} (h : Wd w v kb n) (hb : Below w.heap.size w w') : Wd w' v kb n := by
  obtain ⟨g, cap, rfl, hg, hc⟩ := h
  refine ⟨g, cap, rfl, Nat.lt_of_lt_of_le hg hb.size, fun i hi => ?_⟩
  obtain ⟨gi, oi, ci, h1, h2, h3⟩ := hc i hi
  exact ⟨gi, oi, ci, (hb.cell hg).trans h1, Nat.lt_of_lt_of_le h2 hb.size, fun k hk => (hb.cell h2).trans (h3 k hk)⟩

/-- The round key's byte at a place of the rows. -/
def kf (kb : Nat → Nat) (r j : Nat) : Nat := kb (4 * (4 * r + j % 4) + j / 4)
theorem size4x4 : (Try.prog.info? 95).map (·.size) = some 16 := by kernel_rfl

def z16 : Array Value := #[.int .u8 0, .int .u8 0, .int .u8 0, .int .u8 0, .int .u8 0, .int .u8 0, .int .u8 0, .int .u8 0, .int .u8 0, .int .u8 0, .int .u8 0, .int .u8 0, .int .u8 0, .int .u8 0, .int .u8 0, .int .u8 0]

set_option maxRecDepth 100000 in
set_option maxHeartbeats 4000000 in
theorem keyed_any (v : Value) (kb : Nat → Nat) (cs : Array Value) (st : Nat → Nat) (r : Nat) (hr : r < 15) (w : World) (hcs : cs.size = 16) (hst : ∀ i, i < 16 → cs[i]? = some (.int .u8 (st i : Nat)))
    (ls : ∀ i, i < 16 → st i < 256) (lk : ∀ i, i < 240 → kb i < 256) (hw : Wd w v kb 60) :
    Calls Try.prog 72 #[.agg cs, v, .int .i64 r] w fun e w' => ∃ cs', e = .returned (.agg cs') ∧ cs'.size = 16 ∧ (∀ i, i < 16 → cs'[i]? = some (.int .u8 (st i ^^^ kf kb r i : Nat))) ∧ Below w.heap.size w w' := by
  obtain ⟨gw, cap, rfl, hgw, hwc⟩ := hw
  have HW := Lib.hid hwc
  have HC := Lib.hid hcs
  have HS := Lib.hid hst
  clear hwc hcs hst
  go_enter Try.func72, Try.ntmps72
  go_wp2_with fail
  have hg0 := ((Below.refl w.heap.size w).alloc (Nat.le_refl _) (.cells cs 95)).alloc (by simp) (.cells z16 95)
  have hr0 : ((w.alloc (.cells cs 95)).alloc (.cells z16 95)).rowIs w.heap.size 95 16 (fun j => .int .u8 (st j : Nat)) := ⟨cs, by rw [heap_alloc2_old], HC.out, HS.out⟩
  have hz0 : ((w.alloc (.cells cs 95)).alloc (.cells z16 95)).heap[w.heap.size + 1]? = some (.cells z16 95 (0, 0)) := heap_alloc2_new _ _ _
  change Code.wp _ _ _ _ ((w.alloc (.cells cs 95)).alloc (.cells z16 95))
  have hsz : ((w.alloc (.cells cs 95)).alloc (.cells z16 95)).heap.size = w.heap.size + 2 := by simp
  generalize (w.alloc (.cells cs 95)).alloc (.cells z16 95) = W at *
  have HG0 := Lib.hid hg0
  have HR0 := Lib.hid hr0
  have HZ0 := Lib.hid hz0
  have HSZ := Lib.hid hsz
  clear hg0 hr0 hz0 hsz
  go_loopw [7] (fun i wr => ∃ k : Nat, k ≤ 4 ∧ i = .int .i64 k ∧ wr.rowIs w.heap.size 95 16 (fun j => .int .u8 (upd (k * 4) (fun j => st j ^^^ kf kb r j) st j : Nat)) ∧ W.grownBy wr (some w.heap.size)) (fun i _ => 4 - (intOf i).toNat)
  case atStart => exact ⟨0, by omega, rfl, HR0.out.congr (fun i _ => by rw [Nat.zero_mul, upd_zero]), grown_refl _ _⟩
  case round =>
    obtain ⟨k, hk, rfl, hrw, hg⟩ := hrel
    have HR := Lib.hid hrw
    have HG := Lib.hid hg
    clear hrw hg
    by_cases e0 : k < 4
    · have b4 : (k : Int) < 4 := by omega
      go_wp2_with fail
      obtain ⟨wo, rfl⟩ : ∃ wo : World, wo = wr := ⟨_, rfl⟩
      go_loopw [8] (fun i wr => ∃ c : Nat, c ≤ 4 ∧ i = .int .i64 c ∧ wr.rowIs w.heap.size 95 16 (fun j => .int .u8 (upd (k * 4 + c) (fun j => st j ^^^ kf kb r j) st j : Nat)) ∧ W.grownBy wr (some w.heap.size)) (fun i _ => 4 - (intOf i).toNat)
      case atStart => exact ⟨0, by omega, rfl, HR.out, HG.out⟩
      case round =>
        clear HR HG
        obtain ⟨c, hc, rfl, hrw, hg⟩ := hrel
        by_cases e1 : c < 4
        · have c1 : wr.cell? ⟨w.heap.size, k * 4 + c, none⟩ = some (.int .u8 (st (k * 4 + c))) := by rw [hrw.cell (by omega), upd_ge _ _ (Nat.le_refl _)]
          have c4 := hrw.frozen (k * 4 + c)
          obtain ⟨gi, oi, ci, h1, h2, h3⟩ := HW.out (4 * r + c) (by omega)
          have hbw : Below w.heap.size w wr := below_of_grown HG0.out hg HG0.out.size (Nat.le_refl _)
          have c2 : wr.cell? ⟨gw, 4 * r + c, none⟩ = some (.slice (some ⟨gi, oi, none⟩) 4 ci) := (hbw.cell hgw).trans h1
          have c3 : wr.cell? ⟨gi, oi + k, none⟩ = some (.int .u8 (kf kb r (k * 4 + c) : Nat)) := by
            rw [(hbw.cell h2).trans (h3 k e0)]
            unfold kf
            rw [show 4 * (4 * r + (k * 4 + c) % 4) + (k * 4 + c) / 4 = 4 * (4 * r + c) + k by omega]
          have k3 : bits BinOp.xor IntKind.u8 (st (k * 4 + c) : Int) (kf kb r (k * 4 + c) : Int) = ((st (k * 4 + c) ^^^ kf kb r (k * 4 + c) : Nat) : Int) := u8_xor_nat _ _ (ls _ (by omega)) (lk _ (by omega))
          have b0 : IntKind.i64.wrap (4 * (r : Int)) = 4 * r := by simp [IntKind.wrap, IntKind.signed, IntKind.bits]; omega
          have b1 : IntKind.i64.wrap (4 * (r : Int) + c) = 4 * r + c := by simp [IntKind.wrap, IntKind.signed, IntKind.bits]; omega
          have b6 : 0 ≤ 4 * (r : Int) + c := by omega
          have b2 : 4 * (r : Int) + c < 60 := by omega
          have b3 : (4 * (r : Int) + c).toNat = 4 * r + c := by omega
          have b5 : (c : Int) < 4 := by omega
          have HR := Lib.hid hrw
          have HG := Lib.hid hg
          clear hrw hg h1 h2 h3
          go_wp2_with fail
          refine wp_region_still_tail 20 (by kernel_rfl) (by kernel_rfl) ?_
          simp only [List.take_succ_cons, List.take_zero, List.drop_succ_cons, List.drop_zero]
          repeat still_step
          try refine wpStill_nil ?_
          change wpList _ _ _ _ _ wr.drew
          go_wp2_with fail
          go_roundw
          case rel =>
            refine ⟨c + 1, by omega, by go_num, ?_, ?_⟩
            · exact row_upd (a := fun j => st j ^^^ kf kb r j) HR.out.drew
            · exact grown_set (grown_drew HG.out) (.inl rfl) _
          case measure => simp [intOf]; omega
        · obtain rfl : c = 4 := by omega
          have HR := Lib.hid hrw
          have HG := Lib.hid hg
          clear hrw hg
          go_wp2_with fail
          go_roundw
          case rel => exact ⟨k + 1, by omega, by go_num, by rw [show (k + 1) * 4 = k * 4 + 4 by omega]; exact HR.out, HG.out⟩
          case measure => simp [intOf]; omega
    · obtain rfl : k = 4 := by omega
      obtain ⟨cs2, hb2, hn2, hc2⟩ := HR.out
      have hc3 : ∀ i, i < 16 → cs2[i]? = some (.int .u8 (st i ^^^ kf kb r i : Nat)) := fun i hi => by
        refine (hc2 i hi).trans ?_
        show some (Value.int .u8 ((upd (4 * 4) (fun j => st j ^^^ kf kb r j) st i : Nat) : Int)) = _
        rw [upd_lt _ _ (by omega)]
      have hz2 : wr.heap[w.heap.size + 1]? = some (.cells z16 95 (0, 0)) := (HG.out.block _ (by rw [HSZ.out]; omega) (by simp)).trans HZ0.out
      have hbw : Below w.heap.size w wr := below_of_grown HG0.out HG.out HG0.out.size (Nat.le_refl _)
      have HB2 := Lib.hid hb2
      have HN2 := Lib.hid hn2
      have HC3 := Lib.hid hc3
      have HZ2 := Lib.hid hz2
      have HBW := Lib.hid hbw
      clear hb2 hn2 hc2 hc3 hz2 hbw HR HG HZ0
      go_wp2_with (first
        | (refine wpList_load_row rfl 95 (.tmp 3) rfl w.heap.size rfl 95 cs2 (0, 0) _ HB2.out Try.underlying95 rfl (by rw [HN2.out]; exact size4x4) ?_)
        | (refine wpList_store_row rfl 95 (.tmp 6) (.tmp 37) rfl (w.heap.size + 1) cs2 rfl rfl 95 z16 HZ2.out (by rw [HN2.out]; exact size4x4) (by rw [HN2.out]; rfl) (bytes_oneCell HN2.out HC3.out) ?_))
      (try simp only [Exit.inBlock, Exit.then])
      refine bodyPost_ret (results_cell_row rfl _ _ (w.heap.size + 1) 95 cs2 (0, 0) _ rfl (setRow_heap _ _ _ _ _ _ HZ2.out) Try.underlying95 rfl (by rw [HN2.out]; exact size4x4)) rfl ?_
      exact ⟨cs2, rfl, HN2.out, HC3.out, below_setRow HBW.out (by omega) _⟩
end Go.Proofs.Ytmldpamkghdohaa
