/-
  THE WALKS OF THE AES CHAPTER's STATE FUNCTIONS: xor with a round key, moved, mixed. Conditions: the pointers lead to rows of bytes, the cipher's block is another one.
-/
import Derived.Test.YtmldpamkghdohaaAesW2
import Derived.Test.YtmldpamkghdohaaMem
import Derived.StillTailTactics
import Derived.Deep.QuietTactic
import Derived.BigQuiet
import Derived.Deep.RegionHeld3
import Derived.Deep.MidRow
import Derived.Deep.WholeRow
namespace Go.Proofs.Ytmldpamkghdohaa
open Go.RowKit
set_option linter.unusedSimpArgs false
set_option linter.unusedVariables false

set_option maxRecDepth 100000 in
set_option maxHeartbeats 1000000 in
theorem xor_any (gc gs r : Nat) (s K : Nat → Nat) (w : World) (hr : r < 15) (hne : gc ≠ gs) (hs : ∀ i, i < 16 → s i < 256) (hK : ∀ i, i < 16 → K i < 256)
    (hrow : w.rowIs gs 33 16 (fun i => .int .u8 (s i))) (hcl : gc < w.heap.size) (hk : ∀ j, j < 16 → w.cell? ⟨gc, 513 + r * 16 + j, none⟩ = some (.int .u8 (K j))) :
    Calls Try.prog 44 #[.pointer (some ⟨gc, 0, none⟩), .pointer (some ⟨gs, 0, none⟩), .int .i64 r] w fun e w' => e = .returned (.tuple #[]) ∧
      w'.rowIs gs 33 16 (fun i => .int .u8 (s i ^^^ K i : Nat)) ∧ w.grownBy w' (some gs) := by
  have hrI : (r : Int) < 15 := by omega
  have HK := Lib.hid hk
  clear hk
  go_enter Try.func44, Try.ntmps44
  go_wp2
  go_loopw [7] (fun i wr => ∃ k : Nat, k ≤ 16 ∧ i = .int .i64 k ∧ wr.rowIs gs 33 16 (fun j => .int .u8 (upd k (fun j => s j ^^^ K j) s j : Nat)) ∧ w.grownBy wr (some gs)) (fun i _ => 16 - (intOf i).toNat)
  case atStart => exact ⟨0, by omega, rfl, hrow.congr (fun i _ => by rw [upd_zero]), grown_refl _ _⟩
  case round =>
    obtain ⟨k, hk, rfl, hrw, hg⟩ := hrel
    by_cases e0 : k < 16
    · have c1 : wr.cell? ⟨gs, k, none⟩ = some (.int .u8 (s k)) := by rw [hrw.cell e0, upd_ge _ _ (Nat.le_refl _)]
      have c2 : wr.cell? ⟨gc, 513 + r * 16 + k, none⟩ = some (.int .u8 (K k)) := (grown_cell hg (p := ⟨gc, 513 + r * 16 + k, none⟩) hcl hne).trans (HK.out k e0)
      have c3 := hrw.frozen k
      have k3 : bits BinOp.xor IntKind.u8 (s k : Int) (K k : Int) = ((s k ^^^ K k : Nat) : Int) := u8_xor_nat _ _ (hs k e0) (hK k e0)
      have HR := Lib.hid hrw
      have HG := Lib.hid hg
      clear hrw hg
      go_wp2_with fail
      go_still_tail 16, (by kernel_rfl)
      change wpList _ _ _ _ _ wr.drew
      go_wp2
      go_roundw
      case rel =>
        refine ⟨k + 1, by omega, by go_num, ?_, ?_⟩
        · exact row_upd (a := fun j => s j ^^^ K j) HR.out.drew
        · exact grown_set (grown_drew HG.out) (.inl rfl) _
      case measure => simp [intOf]; omega
    · obtain rfl : k = 16 := by omega
      go_wp2
      go_end0
      exact ⟨rfl, hrw.congr (fun i hi => by rw [upd_lt _ _ hi]), hg⟩

/-! ### The rows of the shift, and moved -/
def pe (i : Nat) : Nat := (i + 4 * (i % 4)) % 16
def pd (i : Nat) : Nat := (i + 12 * (i % 4)) % 16
theorem pe_lt (i : Nat) : pe i < 16 := Nat.mod_lt _ (by omega)
theorem pd_lt (i : Nat) : pd i < 16 := Nat.mod_lt _ (by omega)
theorem pe_any (i : Nat) (hi : i < 16) (w : World) : Calls Try.prog 46 #[.int .i64 i] w fun e w' => e = .returned (.int .i64 (pe i)) ∧ w' = w := by
  go_enter Try.func46, Try.ntmps46
  go_wp2
  go_ret
  exact ⟨by simp [pe], rfl⟩
theorem size16 : (Try.prog.info? 33).map (·.size) = some 16 := by kernel_rfl

set_option maxRecDepth 100000 in
set_option maxHeartbeats 1000000 in
theorem moved_enc (gc gs o : Nat) (s T : Nat → Nat) (w : World) (hne : gc ≠ gs) (hs : ∀ i, i < 16 → s i < 256) (hT : ∀ i, i < 256 → T i < 256)
    (hrow : w.rowIs gs 33 16 (fun i => .int .u8 (s i))) (hcl : gc < w.heap.size) (hk : ∀ j, j < 256 → w.cell? ⟨gc, o + j, none⟩ = some (.int .u8 (T j))) :
    Calls Try.prog 45 #[.pointer (some ⟨gs, 0, none⟩), .pointer (some ⟨gc, o, none⟩), .func (.func 46) #[] #[]] w fun e w' => e = .returned (.tuple #[]) ∧
      w'.rowIs gs 33 16 (fun i => .int .u8 (T (s (pe i)) : Nat)) ∧ w.grownBy w' (some gs) := by
  have HK := Lib.hid hk
  clear hk
  obtain ⟨cs, hb, hcs, hcell⟩ := hrow
  have HB := Lib.hid hb
  have HC := Lib.hid hcs
  have HCE := Lib.hid hcell
  clear hb hcs hcell
  go_enter Try.func45, Try.ntmps45
  go_wp2_with (first
    | (refine wpList_load_row rfl 33 (.tmp 9) rfl gs rfl 33 cs (0, 0) _ HB.out Try.underlying33 rfl (by rw [HC.out]; exact size16) ?_)
    | (refine wpList_store_new 33 (.tmp 6) (.tmp 10) rfl rfl _ cs rfl rfl (by rw [HC.out]; exact size16) (by rw [HC.out]; rfl) (bytes_oneCell HC.out HCE.out) ?_))
  have hb := HB.out
  have hB := lt_of_block hb
  have hrow2 : (w.alloc (.cells cs 33)).rowIs gs 33 16 (fun i => .int .u8 (s i)) := World.rowIs.alloc ⟨cs, hb, HC.out, HCE.out⟩ _
  have hrow3 : (w.alloc (.cells cs 33)).rowIs w.heap.size 33 16 (fun i => .int .u8 (s i)) := ⟨cs, heap_alloc_new w _, HC.out, HCE.out⟩
  have hg0 : w.grownBy (w.alloc (.cells cs 33)) (some gs) := World.grownBy_alloc _ _ _
  clear hb HB HC HCE
  go_loopw [11] (fun i wr => ∃ k : Nat, k ≤ 16 ∧ i = .int .i64 k ∧ wr.rowIs gs 33 16 (fun j => .int .u8 (upd k (fun j => T (s (pe j))) s j : Nat)) ∧
      wr.rowIs w.heap.size 33 16 (fun i => .int .u8 (s i)) ∧ w.grownBy wr (some gs)) (fun i _ => 16 - (intOf i).toNat)
  case atStart => exact ⟨0, by omega, rfl, hrow2.congr (fun i _ => by rw [upd_zero]), hrow3, hg0⟩
  case round =>
    clear hrow2 hrow3 hg0
    obtain ⟨k, hk, rfl, hrw, hrb, hg⟩ := hrel
    by_cases e0 : k < 16
    · have c1 : wr.cell? ⟨w.heap.size, pe k, none⟩ = some (.int .u8 (s (pe k))) := hrb.cell (pe_lt k)
      have c2 : wr.cell? ⟨gc, o + s (pe k), none⟩ = some (.int .u8 (T (s (pe k)))) := (grown_cell hg (p := ⟨gc, o + s (pe k), none⟩) hcl hne).trans (HK.out _ (hs _ (pe_lt k)))
      have c3 := hrw.frozen k
      have c4 := hrw.cell e0
      have b1 : ((pe k : Nat) : Int) < 16 := by have := pe_lt k; omega
      have b2 : ((s (pe k) : Nat) : Int) < 256 := by have := hs _ (pe_lt k); omega
      have HR := Lib.hid hrw
      have HRB := Lib.hid hrb
      have HG := Lib.hid hg
      clear hrw hg hrb
      go_wp2_with fail
      refine wp_region_still_tail 13 (by kernel_rfl) (by kernel_rfl) ?_
      simp only [List.take_succ_cons, List.take_zero, List.drop_succ_cons, List.drop_zero]
      repeat still_step
      still_call (pe_any k e0 _)
      repeat still_step
      try refine wpStill_nil ?_
      change wpList _ _ _ _ _ wr.drew
      go_wp2
      go_roundw
      case rel =>
        refine ⟨k + 1, by omega, by go_num, ?_, ?_, ?_⟩
        · exact row_upd (a := fun j => T (s (pe j))) HR.out.drew
        · exact (HRB.out.drew).setOther (by show w.heap.size ≠ gs; omega) _
        · exact grown_set (grown_drew HG.out) (.inl rfl) _
      case measure => simp [intOf]; omega
    · obtain rfl : k = 16 := by omega
      go_wp2
      go_end0
      exact ⟨rfl, hrw.congr (fun i hi => by rw [upd_lt _ _ hi]), hg⟩
end Go.Proofs.Ytmldpamkghdohaa
