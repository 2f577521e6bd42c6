/-
  THE WALK OF quillpresslaw29.JournalNone: it returns true. Conditions: none.
-/
import Derived.Test.YtlhbijpmhokmnaaQ35
namespace Go.Proofs.Ytlhbijpmhokmnaa
open Go.RowKit
set_option linter.unusedSimpArgs false
set_option linter.unusedVariables false

theorem nojB {w w' : World} {v : Value} (h : NoJ w v) (hb : Below w.heap.size w w') : NoJ w' v := by
  rcases h with h | ⟨gj, h1, h2⟩
  · exact .inl h
  · exact .inr ⟨gj, h1, (hb.cell (p := ⟨gj, 0, none⟩) (block_lt_of_cell h2)).trans h2⟩
set_option maxRecDepth 100000 in
set_option maxHeartbeats 4000000 in
theorem journalNone_any (A : Option Addr) (m c : Nat) (w : World) : Calls Try.prog 3 #[.slice A m c] w fun e w' => e = .returned (.bool true) ∧ Below w.heap.size w w' := by
  go_enter Try.func3, Try.ntmps3
  go_wp2_with fail
  have hb2 : Below w.heap.size w ((w.alloc (.cells #[.pointer none, .int .i64 0, .int .i64 0, .bool false] 26)).alloc (.cells #[.pointer none, .pointer (some ⟨w.heap.size, 0, none⟩)] 23)) := ((Below.refl _ _).alloc (Nat.le_refl _) _).alloc (by rw [World.size_alloc]; omega) _
  have hz1 : ((w.alloc (.cells #[.pointer none, .int .i64 0, .int .i64 0, .bool false] 26)).alloc (.cells #[.pointer none, .pointer (some ⟨w.heap.size, 0, none⟩)] 23)).heap[w.heap.size]? = some (.cells #[.pointer none, .int .i64 0, .int .i64 0, .bool false] 26) := (((Below.refl _ _).alloc (Nat.le_refl _) _).block w.heap.size (by simp)).trans (heap_alloc_new w _)
  have hz2 := heap_alloc2_new w (.cells #[.pointer none, .int .i64 0, .int .i64 0, .bool false] 26) (.cells #[.pointer none, .pointer (some ⟨w.heap.size, 0, none⟩)] 23)
  have q0 : World.cell? ((w.alloc (.cells #[.pointer none, .int .i64 0, .int .i64 0, .bool false] 26)).alloc (.cells #[.pointer none, .pointer (some ⟨w.heap.size, 0, none⟩)] 23)) ⟨w.heap.size, 0, none⟩ = some (.pointer none) := by rw [cell_of_row _ _ _ _ _ _ hz1]; rfl
  have q1 : World.cell? ((w.alloc (.cells #[.pointer none, .int .i64 0, .int .i64 0, .bool false] 26)).alloc (.cells #[.pointer none, .pointer (some ⟨w.heap.size, 0, none⟩)] 23)) ⟨w.heap.size + 1, 0, none⟩ = some (.pointer none) := by rw [cell_of_row _ _ _ _ _ _ hz2]; rfl
  have q2 : World.cell? ((w.alloc (.cells #[.pointer none, .int .i64 0, .int .i64 0, .bool false] 26)).alloc (.cells #[.pointer none, .pointer (some ⟨w.heap.size, 0, none⟩)] 23)) ⟨w.heap.size + 1, 1, none⟩ = some (.pointer (some ⟨w.heap.size, 0, none⟩)) := by rw [cell_of_row _ _ _ _ _ _ hz2]; rfl
  generalize (w.alloc (.cells #[.pointer none, .int .i64 0, .int .i64 0, .bool false] 26)).alloc (.cells #[.pointer none, .pointer (some ⟨w.heap.size, 0, none⟩)] 23) = W at *
  have HB := Lib.hid hb2
  have Q0 := Lib.hid q0
  have Q1 := Lib.hid q1
  have Q2 := Lib.hid q2
  clear hb2 hz1 hz2 q0 q1 q2
  go_loopw [11] (fun v wr => ∃ k : Nat, k ≤ 2 ∧ v = .int .i64 k ∧ Below W.heap.size W wr) (fun v _ => 2 - (intOf v).toNat)
  case atStart => exact ⟨0, by omega, rfl, Below.refl _ _⟩
  case round =>
    obtain ⟨k, hk, rfl, hbw⟩ := hrel
    have HBW := Lib.hid hbw
    have q1 := (hbw.cell (p := ⟨w.heap.size + 1, 0, none⟩) (block_lt_of_cell Q1.out)).trans Q1.out
    have q2 := (hbw.cell (p := ⟨w.heap.size + 1, 1, none⟩) (block_lt_of_cell Q2.out)).trans Q2.out
    have Q0' := Lib.hid ((hbw.cell (p := ⟨w.heap.size, 0, none⟩) (block_lt_of_cell Q0.out)).trans Q0.out)
    clear hbw
    obtain rfl | rfl | rfl : k = 0 ∨ k = 1 ∨ k = 2 := by omega
    · have HN : Hid (NoJ wr (.pointer none)) := .inl rfl
      go_wp2_with fail
      refine (nadd_any HN.out _).mono ?_
      rintro e w2 ⟨rfl, hb⟩
      have HBA := Lib.hid hb
      have HN2 := Lib.hid (nojB HN.out hb)
      clear hb
      go_wp2_with fail
      refine (nlen_any HN2.out).mono ?_
      rintro e w' ⟨rfl, rfl⟩
      go_wp2_with fail
      refine (njsize_any HN2.out).mono ?_
      rintro e w' ⟨rfl, rfl⟩
      go_wp2_with fail
      refine (nbroken_any HN2.out).mono ?_
      rintro e w' ⟨rfl, rfl⟩
      go_wp2_with fail
      go_roundw
      case rel => exact ⟨1, by omega, rfl, HBW.out.trans (HBA.out.mono HBW.out.size)⟩
      case measure => simp [intOf]
    · have HN : Hid (NoJ wr (.pointer (some ⟨w.heap.size, 0, none⟩))) := .inr ⟨_, rfl, Q0'.out⟩
      go_wp2_with fail
      refine (nadd_any HN.out _).mono ?_
      rintro e w2 ⟨rfl, hb⟩
      have HBA := Lib.hid hb
      have HN2 := Lib.hid (nojB HN.out hb)
      clear hb
      go_wp2_with fail
      refine (nlen_any HN2.out).mono ?_
      rintro e w' ⟨rfl, rfl⟩
      go_wp2_with fail
      refine (njsize_any HN2.out).mono ?_
      rintro e w' ⟨rfl, rfl⟩
      go_wp2_with fail
      refine (nbroken_any HN2.out).mono ?_
      rintro e w' ⟨rfl, rfl⟩
      go_wp2_with fail
      go_roundw
      case rel => exact ⟨2, by omega, rfl, HBW.out.trans (HBA.out.mono HBW.out.size)⟩
      case measure => simp [intOf]
    · go_wp2_with fail
      refine (jawake_any wr).mono ?_
      rintro e w3 ⟨rfl, hb⟩
      have HB2 := Lib.hid (HB.out.trans ((HBW.out.trans (hb.mono HBW.out.size)).mono HB.out.size))
      clear hb
      go_wp2_with fail
      go_ret
      exact ⟨rfl, HB2.out⟩
theorem journalNone_walk (A0 : Option Addr) (c0 : Nat) (l0 : List Nat) (w : World) (hr0 : Rd w A0 l0) (hl0 : l0.length ≤ c0) (hm0 : c0 ≤ maxLen) :
    Calls Try.prog 3 #[.slice A0 l0.length c0] w fun e w' => e = .returned (.bool true) ∧ Below w.heap.size w w' := journalNone_any A0 l0.length c0 w
end Go.Proofs.Ytlhbijpmhokmnaa
