/-
  THE WALKS OF THE AES CHAPTER's STATE FUNCTIONS: mixed. Conditions: the pointer leads to a row of bytes.
-/
import Derived.Test.YtmldpamkghdohaaAesW3
namespace Go.Proofs.Ytmldpamkghdohaa
open Go.RowKit
set_option linter.unusedSimpArgs false
set_option linter.unusedVariables false

def mixF (s : Nat → Nat) (a b c d i : Nat) : Nat := tm (s (i / 4 * 4 + i % 4)) a ^^^ tm (s (i / 4 * 4 + (i + 1) % 4)) b ^^^ tm (s (i / 4 * 4 + (i + 2) % 4)) c ^^^ tm (s (i / 4 * 4 + (i + 3) % 4)) d
theorem mix_ix {i k : Nat} (hi : i < 16) : i / 4 * 4 + (i + k) % 4 < 16 := by omega
theorem times_still (a b : Nat) (ha : a < 256) (hb : b < 256) (w : World) :
    Calls Try.prog 40 #[.int .u8 a, .int .u8 b] w fun e w' => e = .returned (.int .u8 (tm a b)) ∧ w' = w :=
  (times_any a b ha hb w).mono fun _ _ ⟨h, k⟩ => ⟨h, k.symm⟩
set_option maxHeartbeats 1000000 in
theorem mixat_any (gw gc gi i k : Nat) (s : Nat → Nat) (w : World) (hi : i < 16) (hk : k < 4) (hw : ∀ j, j < 16 → w.cell? ⟨gw, j, none⟩ = some (.int .u8 (s j)))
    (hc : w.cell? ⟨gc, 0, none⟩ = some (.int .i64 ((i / 4 * 4 : Nat) : Int))) (hci : w.cell? ⟨gi, 0, none⟩ = some (.int .i64 i)) :
    Calls Try.prog 69 #[.int .i64 k, .pointer (some ⟨gw, 0, none⟩), .pointer (some ⟨gc, 0, none⟩), .pointer (some ⟨gi, 0, none⟩)] w fun e w' =>
      e = .returned (.int .u8 (s (i / 4 * 4 + (i + k) % 4))) ∧ w' = w := by
  have hx := hw _ (mix_ix (k := k) hi)
  have b1 : ((i / 4 * 4 : Nat) : Int) + ((i : Int) + k) % 4 < 16 := by omega
  have b2 : (((i / 4 * 4 : Nat) : Int) + ((i : Int) + k) % 4).toNat = i / 4 * 4 + (i + k) % 4 := by omega
  clear hw
  go_enter Try.func69, Try.ntmps69
  go_wp2
  go_ret
  exact ⟨rfl, rfl⟩

theorem i64_clear3 (i : Nat) (hi : i < 16) : bits BinOp.andNot IntKind.i64 (i : Int) 3 = ((i / 4 * 4 : Nat) : Int) := by
  have h : ∀ i : Nat, i < 16 → bits BinOp.andNot IntKind.i64 (i : Int) 3 = ((i / 4 * 4 : Nat) : Int) := by decide +kernel
  exact h i hi

set_option maxRecDepth 100000 in
set_option maxHeartbeats 2000000 in
theorem mixed_any (gs a b c d : Nat) (s : Nat → Nat) (w : World) (hs : ∀ i, i < 16 → s i < 256) (ha : a < 256) (hb : b < 256) (hc : c < 256) (hd : d < 256)
    (hrow : w.rowIs gs 33 16 (fun i => .int .u8 (s i))) :
    Calls Try.prog 47 #[.pointer (some ⟨gs, 0, none⟩), .int .u8 a, .int .u8 b, .int .u8 c, .int .u8 d] w fun e w' => e = .returned (.tuple #[]) ∧
      w'.rowIs gs 33 16 (fun i => .int .u8 (mixF s a b c d i : Nat)) ∧ w.grownBy w' (some gs) := by
  obtain ⟨cs, hblk, hcs, hcell⟩ := hrow
  have HB := Lib.hid hblk
  have HC := Lib.hid hcs
  have HCE := Lib.hid hcell
  clear hblk hcs hcell
  go_enter Try.func47, Try.ntmps47
  go_wp2_with (first
    | (refine wpList_load_row rfl 33 (.tmp 15) rfl gs rfl 33 cs (0, 0) _ HB.out Try.underlying33 rfl (by rw [HC.out]; exact size16) ?_)
    | (refine wpList_store_new 33 (.tmp 10) (.tmp 16) rfl rfl _ cs rfl rfl (by rw [HC.out]; exact size16) (by rw [HC.out]; rfl) (bytes_oneCell HC.out HCE.out) ?_))
  have hblk := HB.out
  have hB := lt_of_block hblk
  have hrow2 : (w.alloc (.cells cs 33)).rowIs gs 33 16 (fun i => .int .u8 (s i)) := World.rowIs.alloc ⟨cs, hblk, HC.out, HCE.out⟩ _
  have hrow3 : (w.alloc (.cells cs 33)).rowIs w.heap.size 33 16 (fun i => .int .u8 (s i)) := ⟨cs, heap_alloc_new w _, HC.out, HCE.out⟩
  have hg0 : w.grownBy (w.alloc (.cells cs 33)) (some gs) := World.grownBy_alloc _ _ _
  have hsz0 : w.heap.size < (w.alloc (.cells cs 33)).heap.size := by simp
  clear hblk HB HC HCE
  go_loopw [17] (fun i wr => ∃ k : Nat, k ≤ 16 ∧ i = .int .i64 k ∧ wr.rowIs gs 33 16 (fun j => .int .u8 (upd k (mixF s a b c d) s j : Nat)) ∧
      wr.rowIs w.heap.size 33 16 (fun i => .int .u8 (s i)) ∧ w.grownBy wr (some gs) ∧ w.heap.size < wr.heap.size) (fun i _ => 16 - (intOf i).toNat)
  case atStart => exact ⟨0, by omega, rfl, hrow2.congr (fun i _ => by rw [upd_zero]), hrow3, hg0, hsz0⟩
  case round =>
    clear hrow2 hrow3 hg0 hsz0
    obtain ⟨k, hk, rfl, hrw, hrb, hg, hsz⟩ := hrel
    by_cases e0 : k < 16
    · have k1 := i64_clear3 k e0
      have hgs : gs ≠ wr.heap.size ∧ gs ≠ wr.heap.size + 1 := by omega
      have HR := Lib.hid hrw
      have HRB := Lib.hid hrb
      have HG := Lib.hid hg
      clear hrw hg hrb
      go_wp2_with fail
      have w2 : ∀ j, j < 16 → ((wr.alloc (.cells #[.int .i64 (k : Int)] 3)).alloc (.cells #[.int .i64 ((k : Int) / 4 * 4)] 3)).cell? ⟨w.heap.size, j, none⟩ = some (.int .u8 (s j)) :=
        fun j hj => ((HRB.out.alloc _).alloc _).cell hj
      have wc : ((wr.alloc (.cells #[.int .i64 (k : Int)] 3)).alloc (.cells #[.int .i64 ((k : Int) / 4 * 4)] 3)).cell? ⟨wr.heap.size + 1, 0, none⟩ = some (.int .i64 ((k / 4 * 4 : Nat) : Int)) := by
        have h := heap_alloc2_new wr (.cells #[.int .i64 (k : Int)] 3) (.cells #[.int .i64 ((k : Int) / 4 * 4)] 3)
        rw [cell_of_row _ _ _ _ _ _ h]
        simp
      have wi : ((wr.alloc (.cells #[.int .i64 (k : Int)] 3)).alloc (.cells #[.int .i64 ((k : Int) / 4 * 4)] 3)).cell? ⟨wr.heap.size, 0, none⟩ = some (.int .i64 (k : Int)) := by
        have h := heap_alloc2_old wr (.cells #[.int .i64 (k : Int)] 3) (.cells #[.int .i64 ((k : Int) / 4 * 4)] 3)
        rw [cell_of_row _ _ _ _ _ _ h]
        rfl
      have hr2 := (HR.out.alloc (.cells #[.int .i64 (k : Int)] 3)).alloc (.cells #[.int .i64 ((k : Int) / 4 * 4)] 3)
      have hrb2 := (HRB.out.alloc (.cells #[.int .i64 (k : Int)] 3)).alloc (.cells #[.int .i64 ((k : Int) / 4 * 4)] 3)
      have hg2 := grown_alloc (grown_alloc HG.out (.cells #[.int .i64 (k : Int)] 3)) (.cells #[.int .i64 ((k : Int) / 4 * 4)] 3)
      have hz2 : w.heap.size < ((wr.alloc (.cells #[.int .i64 (k : Int)] 3)).alloc (.cells #[.int .i64 ((k : Int) / 4 * 4)] 3)).heap.size := by simp; omega
      generalize (wr.alloc (.cells #[.int .i64 (k : Int)] 3)).alloc (.cells #[.int .i64 ((k : Int) / 4 * 4)] 3) = W at *
      have c3 := hr2.frozen k
      have c4 := hr2.cell e0
      have x0 : s (k / 4 * 4 + k % 4) < 256 := hs _ (by omega)
      have x1 := hs _ (mix_ix (k := 1) e0)
      have x2 := hs _ (mix_ix (k := 2) e0)
      have x3 := hs _ (mix_ix (k := 3) e0)
      have K1 : bits BinOp.xor IntKind.u8 (tm (s (k / 4 * 4 + k % 4)) a : Int) (tm (s (k / 4 * 4 + (k + 1) % 4)) b : Int) = ((tm (s (k / 4 * 4 + k % 4)) a ^^^ tm (s (k / 4 * 4 + (k + 1) % 4)) b : Nat) : Int) :=
        u8_xor_nat _ _ (tm_lt _ _ x0) (tm_lt _ _ x1)
      have K2 : bits BinOp.xor IntKind.u8 ((tm (s (k / 4 * 4 + k % 4)) a ^^^ tm (s (k / 4 * 4 + (k + 1) % 4)) b : Nat) : Int) (tm (s (k / 4 * 4 + (k + 2) % 4)) c : Int) = ((tm (s (k / 4 * 4 + k % 4)) a ^^^ tm (s (k / 4 * 4 + (k + 1) % 4)) b ^^^ tm (s (k / 4 * 4 + (k + 2) % 4)) c : Nat) : Int) :=
        u8_xor_nat _ _ (xor_lt8 (tm_lt _ _ x0) (tm_lt _ _ x1)) (tm_lt _ _ x2)
      have K3 : bits BinOp.xor IntKind.u8 ((tm (s (k / 4 * 4 + k % 4)) a ^^^ tm (s (k / 4 * 4 + (k + 1) % 4)) b ^^^ tm (s (k / 4 * 4 + (k + 2) % 4)) c : Nat) : Int) (tm (s (k / 4 * 4 + (k + 3) % 4)) d : Int) = ((mixF s a b c d k : Nat) : Int) :=
        u8_xor_nat _ _ (xor_lt8 (xor_lt8 (tm_lt _ _ x0) (tm_lt _ _ x1)) (tm_lt _ _ x2)) (tm_lt _ _ x3)
      have HW2 := Lib.hid w2
      have WC := Lib.hid wc
      have WI := Lib.hid wi
      have HR2 := Lib.hid hr2
      have HRB2 := Lib.hid hrb2
      have HG2 := Lib.hid hg2
      clear w2 wc hr2 hrb2 hg2 HR HRB HG
      refine wp_region_still_tail 23 (by kernel_rfl) (by kernel_rfl) ?_
      simp only [List.take_succ_cons, List.take_zero, List.drop_succ_cons, List.drop_zero]
      repeat still_step
      still_call (by have := mixat_any w.heap.size (wr.heap.size + 1) wr.heap.size k 0 s W.drew e0 (by omega) (fun j hj => HW2.out j hj) WC.out WI.out; simp only [Nat.add_zero] at this; exact this)
      repeat still_step
      still_call (times_still _ a x0 ha _)
      repeat still_step
      still_call (mixat_any w.heap.size (wr.heap.size + 1) wr.heap.size k 1 s W.drew e0 (by omega) (fun j hj => HW2.out j hj) WC.out WI.out)
      repeat still_step
      still_call (times_still _ b x1 hb _)
      repeat still_step
      still_call (mixat_any w.heap.size (wr.heap.size + 1) wr.heap.size k 2 s W.drew e0 (by omega) (fun j hj => HW2.out j hj) WC.out WI.out)
      repeat still_step
      still_call (times_still _ c x2 hc _)
      repeat still_step
      still_call (mixat_any w.heap.size (wr.heap.size + 1) wr.heap.size k 3 s W.drew e0 (by omega) (fun j hj => HW2.out j hj) WC.out WI.out)
      repeat still_step
      still_call (times_still _ d x3 hd _)
      repeat still_step
      try refine wpStill_nil ?_
      change wpList _ _ _ _ _ W.drew
      go_wp2
      go_roundw
      case rel =>
        refine ⟨k + 1, by omega, by go_num, ?_, ?_, ?_, ?_⟩
        · exact row_upd (a := mixF s a b c d) HR2.out.drew
        · exact (HRB2.out.drew).setOther (by show w.heap.size ≠ gs; omega) _
        · exact grown_set (grown_drew HG2.out) (.inl rfl) _
        · simpa using hz2
      case measure => simp [intOf]; omega
    · obtain rfl : k = 16 := by omega
      go_wp2
      go_end0
      exact ⟨rfl, hrw.congr (fun i hi => by rw [upd_lt _ _ hi]), hg⟩
end Go.Proofs.Ytmldpamkghdohaa
