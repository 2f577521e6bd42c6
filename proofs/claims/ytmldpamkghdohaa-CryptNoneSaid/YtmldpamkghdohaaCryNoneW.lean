/-
  THE WALK OF quillpresslaw08.CryptNone: it returns true. Conditions: none.
-/
import Derived.Test.YtmldpamkghdohaaCryA
namespace Go.Proofs.Ytmldpamkghdohaa
open Go.RowKit
set_option linter.unusedSimpArgs false
set_option linter.unusedVariables false

set_option maxRecDepth 100000 in
set_option maxHeartbeats 4000000 in
theorem cryptNone_any (n : Int) (A : Option Addr) (m c : Nat) (w : World) : Calls Try.prog 6 #[.int .i64 n, .slice A m c] w fun e w' => e = .returned (.bool true) ∧ Below w.heap.size w w' := by
  go_enter Try.func6, Try.ntmps6
  go_wp2_with fail
  have hb2 : Below w.heap.size w ((w.alloc (.cells #[.pointer none, .int .i64 0, .nilFunc] 50)).alloc (.cells #[.pointer none, .pointer (some ⟨w.heap.size, 0, none⟩)] 46)) := ((Below.refl _ _).alloc (Nat.le_refl _) _).alloc (by rw [World.size_alloc]; omega) _
  have hz1 : ((w.alloc (.cells #[.pointer none, .int .i64 0, .nilFunc] 50)).alloc (.cells #[.pointer none, .pointer (some ⟨w.heap.size, 0, none⟩)] 46)).heap[w.heap.size]? = some (.cells #[.pointer none, .int .i64 0, .nilFunc] 50) := (((Below.refl _ _).alloc (Nat.le_refl _) _).block w.heap.size (by simp)).trans (heap_alloc_new w _)
  have hz2 := heap_alloc2_new w (.cells #[.pointer none, .int .i64 0, .nilFunc] 50) (.cells #[.pointer none, .pointer (some ⟨w.heap.size, 0, none⟩)] 46)
  have q0 : World.cell? ((w.alloc (.cells #[.pointer none, .int .i64 0, .nilFunc] 50)).alloc (.cells #[.pointer none, .pointer (some ⟨w.heap.size, 0, none⟩)] 46)) ⟨w.heap.size, 0, none⟩ = some (.pointer none) := by rw [cell_of_row _ _ _ _ _ _ hz1]; rfl
  have q1 : World.cell? ((w.alloc (.cells #[.pointer none, .int .i64 0, .nilFunc] 50)).alloc (.cells #[.pointer none, .pointer (some ⟨w.heap.size, 0, none⟩)] 46)) ⟨w.heap.size + 1, 0, none⟩ = some (.pointer none) := by rw [cell_of_row _ _ _ _ _ _ hz2]; rfl
  have q2 : World.cell? ((w.alloc (.cells #[.pointer none, .int .i64 0, .nilFunc] 50)).alloc (.cells #[.pointer none, .pointer (some ⟨w.heap.size, 0, none⟩)] 46)) ⟨w.heap.size + 1, 1, none⟩ = some (.pointer (some ⟨w.heap.size, 0, none⟩)) := by rw [cell_of_row _ _ _ _ _ _ hz2]; rfl
  generalize (w.alloc (.cells #[.pointer none, .int .i64 0, .nilFunc] 50)).alloc (.cells #[.pointer none, .pointer (some ⟨w.heap.size, 0, none⟩)] 46) = W at *
  have HB := Lib.hid hb2
  have Q0 := Lib.hid q0
  clear hb2 hz1 hz2 q0
  go_loopw [15] (fun v wr => ∃ k : Nat, k ≤ 2 ∧ v = .int .i64 k ∧ wr = W) (fun v _ => 2 - (intOf v).toNat)
  case atStart => exact ⟨0, by omega, rfl, rfl⟩
  case round =>
    obtain ⟨k, hk, rfl, rfl⟩ := hrel
    obtain rfl | rfl | rfl : k = 0 ∨ k = 1 ∨ k = 2 := by omega
    · have HN : Hid (NoF wr (.pointer none)) := .inl rfl
      go_wp2_with fail
      refine (nread_any HN.out _ _).mono ?_
      rintro e w' ⟨rfl, rfl⟩
      go_wp2_with fail
      refine (nappend_any HN.out _).mono ?_
      rintro e w' ⟨rfl, rfl⟩
      go_wp2_with fail
      refine (nsync_any HN.out).mono ?_
      rintro e w' ⟨rfl, rfl⟩
      go_wp2_with fail
      refine (ntrunc_any HN.out _).mono ?_
      rintro e w' ⟨rfl, rfl⟩
      go_wp2_with fail
      refine (nsize_any HN.out).mono ?_
      rintro e w' ⟨rfl, rfl⟩
      go_wp2_with fail
      refine (nplain_any HN.out).mono ?_
      rintro e w' ⟨rfl, rfl⟩
      go_wp2_with fail
      go_roundw
      case rel =>
        first
        | exact ⟨1, by omega, rfl, trivial⟩
        | ((repeat apply Exists.intro); exact ⟨⟨1, by omega, rfl, trivial⟩, rfl⟩)
        | ((repeat apply Exists.intro); exact ⟨⟨1, by omega, rfl, rfl⟩, rfl⟩)
      case measure => simp [intOf]
    · have HN : Hid (NoF wr (.pointer (some ⟨w.heap.size, 0, none⟩))) := .inr ⟨_, rfl, Q0.out⟩
      go_wp2_with fail
      refine (nread_any HN.out _ _).mono ?_
      rintro e w' ⟨rfl, rfl⟩
      go_wp2_with fail
      refine (nappend_any HN.out _).mono ?_
      rintro e w' ⟨rfl, rfl⟩
      go_wp2_with fail
      refine (nsync_any HN.out).mono ?_
      rintro e w' ⟨rfl, rfl⟩
      go_wp2_with fail
      refine (ntrunc_any HN.out _).mono ?_
      rintro e w' ⟨rfl, rfl⟩
      go_wp2_with fail
      refine (nsize_any HN.out).mono ?_
      rintro e w' ⟨rfl, rfl⟩
      go_wp2_with fail
      refine (nplain_any HN.out).mono ?_
      rintro e w' ⟨rfl, rfl⟩
      go_wp2_with fail
      go_roundw
      case rel =>
        first
        | exact ⟨2, by omega, rfl, trivial⟩
        | ((repeat apply Exists.intro); exact ⟨⟨2, by omega, rfl, trivial⟩, rfl⟩)
        | ((repeat apply Exists.intro); exact ⟨⟨2, by omega, rfl, rfl⟩, rfl⟩)
      case measure => simp [intOf]
    · go_wp2_with fail
      refine (cryAwake_any wr).mono ?_
      rintro e w3 ⟨rfl, hb⟩
      have HB2 := Lib.hid (HB.out.trans (hb.mono HB.out.size))
      clear hb
      go_wp2_with fail
      go_ret
      exact ⟨rfl, HB2.out⟩
theorem cryptNone_walk (a0 : Int) (A1 : Option Addr) (c1 : Nat) (l1 : List Nat) (w : World) (w0 : (Lit.int .i64 a0).wf = true) (hr1 : Rd w A1 l1) (hl1 : l1.length ≤ c1) (hm1 : c1 ≤ maxLen) :
    Calls Try.prog 6 #[.int .i64 a0, .slice A1 l1.length c1] w fun e w' => e = .returned (.bool true) ∧ Below w.heap.size w w' := cryptNone_any a0 A1 l1.length c1 w
end Go.Proofs.Ytmldpamkghdohaa
