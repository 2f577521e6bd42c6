/-
  THE WALKS OF disk's methods on no disk; of quillpresslaw07.DiskNone. Conditions: none.
-/
import Derived.Test.YtkmjbfednmidbaaDiskA
import Derived.Test.YtkmjbfednmidbaaRow
namespace Go.Proofs.Ytkmjbfednmidbaa
open Go.RowKit
set_option linter.unusedSimpArgs false
set_option linter.unusedVariables false

/-- No disk: nil, or one that New did not make. -/
def Nn (w : World) (p : Value) : Prop := p = .pointer none ∨ ∃ g, p = .pointer (some ⟨g, 0, none⟩) ∧ w.cell? ⟨g, 0, none⟩ = some (.bool false)
theorem Nn.below {w w' : World} {p : Value} (h : Nn w p) (hb : Below w.heap.size w w') : Nn w' p := by
  rcases h with h | ⟨g, h, hc⟩
  · exact .inl h
  · exact .inr ⟨g, h, (hb.cell (p := ⟨g, 0, none⟩) (block_lt_of_cell hc)).trans hc⟩
theorem none_nn {w : World} {p : Value} (h : Nn w p) : Calls Try.prog 51 #[p] w fun e w' => e = .returned (.bool true) ∧ w = w' := by
  rcases h with rfl | ⟨g, rfl, hc⟩
  · exact none_nil w
  · exact none_zero g w hc
set_option maxRecDepth 100000 in
set_option maxHeartbeats 2000000 in
theorem readAt_nn {w : World} {p : Value} (h : Nn w p) (a n : Int): Calls Try.prog 27 #[p, .int .i64 a, .int .i64 n] w fun e w' => e = .returned (.tuple #[.slice none 0 0, .int .i64 1]) ∧ Below w.heap.size w w' := by
  have H := Lib.hid h
  have hp : p = .pointer none ∨ ∃ g, p = .pointer (some ⟨g, 0, none⟩) := h.imp id fun ⟨g, h, _⟩ => ⟨g, h⟩
  clear h
  rcases hp with rfl | ⟨g, rfl⟩
  all_goals
    go_enter Try.func27, Try.ntmps27
    go_wp2_with fail
    first
      | refine (none_nn H.out).mono ?_
      | refine (none_nn (H.out.below ((Below.refl _ _).alloc (Nat.le_refl _) _))).mono ?_
      | refine (none_nn (H.out.below (((Below.refl _ _).alloc (Nat.le_refl _) _).alloc (by simp) _))).mono ?_
      | refine (none_nn (H.out.below ((((Below.refl _ _).alloc (Nat.le_refl _) _).alloc (by simp) _).alloc (by simp; omega) _))).mono ?_
    rintro e w' ⟨rfl, rfl⟩
    go_wp2_with fail
    first
      | go_ret
      | go_ret2
    refine ⟨rfl, ?_⟩
    first
      | exact Below.refl _ _
      | exact (Below.refl _ _).alloc (Nat.le_refl _) _
      | exact ((Below.refl _ _).alloc (Nat.le_refl _) _).alloc (by simp) _
      | exact (((Below.refl _ _).alloc (Nat.le_refl _) _).alloc (by simp) _).alloc (by simp; omega) _
set_option maxRecDepth 100000 in
set_option maxHeartbeats 2000000 in
theorem append_nn {w : World} {p : Value} (h : Nn w p) (A : Option Addr) (n c : Nat): Calls Try.prog 19 #[p, .slice A n c] w fun e w' => e = .returned (.int .i64 1) ∧ Below w.heap.size w w' := by
  have H := Lib.hid h
  have hp : p = .pointer none ∨ ∃ g, p = .pointer (some ⟨g, 0, none⟩) := h.imp id fun ⟨g, h, _⟩ => ⟨g, h⟩
  clear h
  rcases hp with rfl | ⟨g, rfl⟩
  all_goals
    go_enter Try.func19, Try.ntmps19
    go_wp2_with fail
    first
      | refine (none_nn H.out).mono ?_
      | refine (none_nn (H.out.below ((Below.refl _ _).alloc (Nat.le_refl _) _))).mono ?_
      | refine (none_nn (H.out.below (((Below.refl _ _).alloc (Nat.le_refl _) _).alloc (by simp) _))).mono ?_
      | refine (none_nn (H.out.below ((((Below.refl _ _).alloc (Nat.le_refl _) _).alloc (by simp) _).alloc (by simp; omega) _))).mono ?_
    rintro e w' ⟨rfl, rfl⟩
    go_wp2_with fail
    first
      | go_ret
      | go_ret2
    refine ⟨rfl, ?_⟩
    first
      | exact Below.refl _ _
      | exact (Below.refl _ _).alloc (Nat.le_refl _) _
      | exact ((Below.refl _ _).alloc (Nat.le_refl _) _).alloc (by simp) _
      | exact (((Below.refl _ _).alloc (Nat.le_refl _) _).alloc (by simp) _).alloc (by simp; omega) _
set_option maxRecDepth 100000 in
set_option maxHeartbeats 2000000 in
theorem sync_nn {w : World} {p : Value} (h : Nn w p) : Calls Try.prog 16 #[p] w fun e w' => e = .returned (.int .i64 1) ∧ Below w.heap.size w w' := by
  have H := Lib.hid h
  have hp : p = .pointer none ∨ ∃ g, p = .pointer (some ⟨g, 0, none⟩) := h.imp id fun ⟨g, h, _⟩ => ⟨g, h⟩
  clear h
  rcases hp with rfl | ⟨g, rfl⟩
  all_goals
    go_enter Try.func16, Try.ntmps16
    go_wp2_with fail
    first
      | refine (none_nn H.out).mono ?_
      | refine (none_nn (H.out.below ((Below.refl _ _).alloc (Nat.le_refl _) _))).mono ?_
      | refine (none_nn (H.out.below (((Below.refl _ _).alloc (Nat.le_refl _) _).alloc (by simp) _))).mono ?_
      | refine (none_nn (H.out.below ((((Below.refl _ _).alloc (Nat.le_refl _) _).alloc (by simp) _).alloc (by simp; omega) _))).mono ?_
    rintro e w' ⟨rfl, rfl⟩
    go_wp2_with fail
    first
      | go_ret
      | go_ret2
    refine ⟨rfl, ?_⟩
    first
      | exact Below.refl _ _
      | exact (Below.refl _ _).alloc (Nat.le_refl _) _
      | exact ((Below.refl _ _).alloc (Nat.le_refl _) _).alloc (by simp) _
      | exact (((Below.refl _ _).alloc (Nat.le_refl _) _).alloc (by simp) _).alloc (by simp; omega) _
set_option maxRecDepth 100000 in
set_option maxHeartbeats 2000000 in
theorem trunc_nn {w : World} {p : Value} (h : Nn w p) (n : Int): Calls Try.prog 18 #[p, .int .i64 n] w fun e w' => e = .returned (.int .i64 1) ∧ Below w.heap.size w w' := by
  have H := Lib.hid h
  have hp : p = .pointer none ∨ ∃ g, p = .pointer (some ⟨g, 0, none⟩) := h.imp id fun ⟨g, h, _⟩ => ⟨g, h⟩
  clear h
  rcases hp with rfl | ⟨g, rfl⟩
  all_goals
    go_enter Try.func18, Try.ntmps18
    go_wp2_with fail
    first
      | refine (none_nn H.out).mono ?_
      | refine (none_nn (H.out.below ((Below.refl _ _).alloc (Nat.le_refl _) _))).mono ?_
      | refine (none_nn (H.out.below (((Below.refl _ _).alloc (Nat.le_refl _) _).alloc (by simp) _))).mono ?_
      | refine (none_nn (H.out.below ((((Below.refl _ _).alloc (Nat.le_refl _) _).alloc (by simp) _).alloc (by simp; omega) _))).mono ?_
    rintro e w' ⟨rfl, rfl⟩
    go_wp2_with fail
    first
      | go_ret
      | go_ret2
    refine ⟨rfl, ?_⟩
    first
      | exact Below.refl _ _
      | exact (Below.refl _ _).alloc (Nat.le_refl _) _
      | exact ((Below.refl _ _).alloc (Nat.le_refl _) _).alloc (by simp) _
      | exact (((Below.refl _ _).alloc (Nat.le_refl _) _).alloc (by simp) _).alloc (by simp; omega) _
set_option maxRecDepth 100000 in
set_option maxHeartbeats 2000000 in
theorem arm_nn {w : World} {p : Value} (h : Nn w p) (n : Int): Calls Try.prog 14 #[p, .int .i64 n] w fun e w' => e = .returned (.int .i64 1) ∧ Below w.heap.size w w' := by
  have H := Lib.hid h
  have hp : p = .pointer none ∨ ∃ g, p = .pointer (some ⟨g, 0, none⟩) := h.imp id fun ⟨g, h, _⟩ => ⟨g, h⟩
  clear h
  rcases hp with rfl | ⟨g, rfl⟩
  all_goals
    go_enter Try.func14, Try.ntmps14
    go_wp2_with fail
    first
      | refine (none_nn H.out).mono ?_
      | refine (none_nn (H.out.below ((Below.refl _ _).alloc (Nat.le_refl _) _))).mono ?_
      | refine (none_nn (H.out.below (((Below.refl _ _).alloc (Nat.le_refl _) _).alloc (by simp) _))).mono ?_
      | refine (none_nn (H.out.below ((((Below.refl _ _).alloc (Nat.le_refl _) _).alloc (by simp) _).alloc (by simp; omega) _))).mono ?_
    rintro e w' ⟨rfl, rfl⟩
    go_wp2_with fail
    first
      | go_ret
      | go_ret2
    refine ⟨rfl, ?_⟩
    first
      | exact Below.refl _ _
      | exact (Below.refl _ _).alloc (Nat.le_refl _) _
      | exact ((Below.refl _ _).alloc (Nat.le_refl _) _).alloc (by simp) _
      | exact (((Below.refl _ _).alloc (Nat.le_refl _) _).alloc (by simp) _).alloc (by simp; omega) _
set_option maxRecDepth 100000 in
set_option maxHeartbeats 2000000 in
theorem fail_nn {w : World} {p : Value} (h : Nn w p) (n e : Int): Calls Try.prog 32 #[p, .int .i64 n, .int .i64 e] w fun e w' => e = .returned (.int .i64 1) ∧ Below w.heap.size w w' := by
  have H := Lib.hid h
  have hp : p = .pointer none ∨ ∃ g, p = .pointer (some ⟨g, 0, none⟩) := h.imp id fun ⟨g, h, _⟩ => ⟨g, h⟩
  clear h
  rcases hp with rfl | ⟨g, rfl⟩
  all_goals
    go_enter Try.func32, Try.ntmps32
    go_wp2_with fail
    first
      | refine (none_nn H.out).mono ?_
      | refine (none_nn (H.out.below ((Below.refl _ _).alloc (Nat.le_refl _) _))).mono ?_
      | refine (none_nn (H.out.below (((Below.refl _ _).alloc (Nat.le_refl _) _).alloc (by simp) _))).mono ?_
      | refine (none_nn (H.out.below ((((Below.refl _ _).alloc (Nat.le_refl _) _).alloc (by simp) _).alloc (by simp; omega) _))).mono ?_
    rintro e w' ⟨rfl, rfl⟩
    go_wp2_with fail
    first
      | go_ret
      | go_ret2
    refine ⟨rfl, ?_⟩
    first
      | exact Below.refl _ _
      | exact (Below.refl _ _).alloc (Nat.le_refl _) _
      | exact ((Below.refl _ _).alloc (Nat.le_refl _) _).alloc (by simp) _
      | exact (((Below.refl _ _).alloc (Nat.le_refl _) _).alloc (by simp) _).alloc (by simp; omega) _
set_option maxRecDepth 100000 in
set_option maxHeartbeats 2000000 in
theorem crash_nn {w : World} {p : Value} (h : Nn w p) (n : Int) (A : Option Addr) (k c : Nat): Calls Try.prog 23 #[p, .agg #[.int .i64 n, .slice A k c]] w fun e w' => e = .returned (.int .i64 1) ∧ Below w.heap.size w w' := by
  have H := Lib.hid h
  have hp : p = .pointer none ∨ ∃ g, p = .pointer (some ⟨g, 0, none⟩) := h.imp id fun ⟨g, h, _⟩ => ⟨g, h⟩
  clear h
  rcases hp with rfl | ⟨g, rfl⟩
  all_goals
    go_enter Try.func23, Try.ntmps23
    go_wp2_with fail
    first
      | refine (none_nn H.out).mono ?_
      | refine (none_nn (H.out.below ((Below.refl _ _).alloc (Nat.le_refl _) _))).mono ?_
      | refine (none_nn (H.out.below (((Below.refl _ _).alloc (Nat.le_refl _) _).alloc (by simp) _))).mono ?_
      | refine (none_nn (H.out.below ((((Below.refl _ _).alloc (Nat.le_refl _) _).alloc (by simp) _).alloc (by simp; omega) _))).mono ?_
    rintro e w' ⟨rfl, rfl⟩
    go_wp2_with fail
    first
      | go_ret
      | go_ret2
    refine ⟨rfl, ?_⟩
    first
      | exact Below.refl _ _
      | exact (Below.refl _ _).alloc (Nat.le_refl _) _
      | exact ((Below.refl _ _).alloc (Nat.le_refl _) _).alloc (by simp) _
      | exact (((Below.refl _ _).alloc (Nat.le_refl _) _).alloc (by simp) _).alloc (by simp; omega) _
set_option maxRecDepth 100000 in
set_option maxHeartbeats 2000000 in
theorem size_nn {w : World} {p : Value} (h : Nn w p) : Calls Try.prog 29 #[p] w fun e w' => e = .returned (.int .i64 0) ∧ Below w.heap.size w w' := by
  have H := Lib.hid h
  have hp : p = .pointer none ∨ ∃ g, p = .pointer (some ⟨g, 0, none⟩) := h.imp id fun ⟨g, h, _⟩ => ⟨g, h⟩
  clear h
  rcases hp with rfl | ⟨g, rfl⟩
  all_goals
    go_enter Try.func29, Try.ntmps29
    go_wp2_with fail
    first
      | refine (none_nn H.out).mono ?_
      | refine (none_nn (H.out.below ((Below.refl _ _).alloc (Nat.le_refl _) _))).mono ?_
      | refine (none_nn (H.out.below (((Below.refl _ _).alloc (Nat.le_refl _) _).alloc (by simp) _))).mono ?_
      | refine (none_nn (H.out.below ((((Below.refl _ _).alloc (Nat.le_refl _) _).alloc (by simp) _).alloc (by simp; omega) _))).mono ?_
    rintro e w' ⟨rfl, rfl⟩
    go_wp2_with fail
    first
      | go_ret
      | go_ret2
    refine ⟨rfl, ?_⟩
    first
      | exact Below.refl _ _
      | exact (Below.refl _ _).alloc (Nat.le_refl _) _
      | exact ((Below.refl _ _).alloc (Nat.le_refl _) _).alloc (by simp) _
      | exact (((Below.refl _ _).alloc (Nat.le_refl _) _).alloc (by simp) _).alloc (by simp; omega) _
set_option maxRecDepth 100000 in
set_option maxHeartbeats 2000000 in
theorem synced_nn {w : World} {p : Value} (h : Nn w p) : Calls Try.prog 22 #[p] w fun e w' => e = .returned (.int .i64 0) ∧ Below w.heap.size w w' := by
  have H := Lib.hid h
  have hp : p = .pointer none ∨ ∃ g, p = .pointer (some ⟨g, 0, none⟩) := h.imp id fun ⟨g, h, _⟩ => ⟨g, h⟩
  clear h
  rcases hp with rfl | ⟨g, rfl⟩
  all_goals
    go_enter Try.func22, Try.ntmps22
    go_wp2_with fail
    first
      | refine (none_nn H.out).mono ?_
      | refine (none_nn (H.out.below ((Below.refl _ _).alloc (Nat.le_refl _) _))).mono ?_
      | refine (none_nn (H.out.below (((Below.refl _ _).alloc (Nat.le_refl _) _).alloc (by simp) _))).mono ?_
      | refine (none_nn (H.out.below ((((Below.refl _ _).alloc (Nat.le_refl _) _).alloc (by simp) _).alloc (by simp; omega) _))).mono ?_
    rintro e w' ⟨rfl, rfl⟩
    go_wp2_with fail
    first
      | go_ret
      | go_ret2
    refine ⟨rfl, ?_⟩
    first
      | exact Below.refl _ _
      | exact (Below.refl _ _).alloc (Nat.le_refl _) _
      | exact ((Below.refl _ _).alloc (Nat.le_refl _) _).alloc (by simp) _
      | exact (((Below.refl _ _).alloc (Nat.le_refl _) _).alloc (by simp) _).alloc (by simp; omega) _
set_option maxRecDepth 100000 in
set_option maxHeartbeats 2000000 in
theorem image_nn {w : World} {p : Value} (h : Nn w p) : Calls Try.prog 21 #[p] w fun e w' => e = .returned (.slice none 0 0) ∧ Below w.heap.size w w' := by
  have H := Lib.hid h
  have hp : p = .pointer none ∨ ∃ g, p = .pointer (some ⟨g, 0, none⟩) := h.imp id fun ⟨g, h, _⟩ => ⟨g, h⟩
  clear h
  rcases hp with rfl | ⟨g, rfl⟩
  all_goals
    go_enter Try.func21, Try.ntmps21
    go_wp2_with fail
    first
      | refine (none_nn H.out).mono ?_
      | refine (none_nn (H.out.below ((Below.refl _ _).alloc (Nat.le_refl _) _))).mono ?_
      | refine (none_nn (H.out.below (((Below.refl _ _).alloc (Nat.le_refl _) _).alloc (by simp) _))).mono ?_
      | refine (none_nn (H.out.below ((((Below.refl _ _).alloc (Nat.le_refl _) _).alloc (by simp) _).alloc (by simp; omega) _))).mono ?_
    rintro e w' ⟨rfl, rfl⟩
    go_wp2_with fail
    first
      | go_ret
      | go_ret2
    refine ⟨rfl, ?_⟩
    first
      | exact Below.refl _ _
      | exact (Below.refl _ _).alloc (Nat.le_refl _) _
      | exact ((Below.refl _ _).alloc (Nat.le_refl _) _).alloc (by simp) _
      | exact (((Below.refl _ _).alloc (Nat.le_refl _) _).alloc (by simp) _).alloc (by simp; omega) _
set_option maxRecDepth 100000 in
set_option maxHeartbeats 2000000 in
theorem down_nn {w : World} {p : Value} (h : Nn w p) : Calls Try.prog 33 #[p] w fun e w' => e = .returned (.bool false) ∧ Below w.heap.size w w' := by
  have H := Lib.hid h
  have hp : p = .pointer none ∨ ∃ g, p = .pointer (some ⟨g, 0, none⟩) := h.imp id fun ⟨g, h, _⟩ => ⟨g, h⟩
  clear h
  rcases hp with rfl | ⟨g, rfl⟩
  all_goals
    go_enter Try.func33, Try.ntmps33
    go_wp2_with fail
    first
      | refine (none_nn H.out).mono ?_
      | refine (none_nn (H.out.below ((Below.refl _ _).alloc (Nat.le_refl _) _))).mono ?_
      | refine (none_nn (H.out.below (((Below.refl _ _).alloc (Nat.le_refl _) _).alloc (by simp) _))).mono ?_
      | refine (none_nn (H.out.below ((((Below.refl _ _).alloc (Nat.le_refl _) _).alloc (by simp) _).alloc (by simp; omega) _))).mono ?_
    rintro e w' ⟨rfl, rfl⟩
    go_wp2_with fail
    first
      | go_ret
      | go_ret2
    refine ⟨rfl, ?_⟩
    first
      | exact Below.refl _ _
      | exact (Below.refl _ _).alloc (Nat.le_refl _) _
      | exact ((Below.refl _ _).alloc (Nat.le_refl _) _).alloc (by simp) _
      | exact (((Below.refl _ _).alloc (Nat.le_refl _) _).alloc (by simp) _).alloc (by simp; omega) _
set_option maxRecDepth 100000 in
set_option maxHeartbeats 2000000 in
theorem copy_nn {w : World} {p : Value} (h : Nn w p) : Calls Try.prog 26 #[p] w fun e w' => e = .returned (.pointer none) ∧ Below w.heap.size w w' := by
  have H := Lib.hid h
  have hp : p = .pointer none ∨ ∃ g, p = .pointer (some ⟨g, 0, none⟩) := h.imp id fun ⟨g, h, _⟩ => ⟨g, h⟩
  clear h
  rcases hp with rfl | ⟨g, rfl⟩
  all_goals
    go_enter Try.func26, Try.ntmps26
    go_wp2_with fail
    first
      | refine (none_nn H.out).mono ?_
      | refine (none_nn (H.out.below ((Below.refl _ _).alloc (Nat.le_refl _) _))).mono ?_
      | refine (none_nn (H.out.below (((Below.refl _ _).alloc (Nat.le_refl _) _).alloc (by simp) _))).mono ?_
      | refine (none_nn (H.out.below ((((Below.refl _ _).alloc (Nat.le_refl _) _).alloc (by simp) _).alloc (by simp; omega) _))).mono ?_
    rintro e w' ⟨rfl, rfl⟩
    go_wp2_with fail
    first
      | go_ret
      | go_ret2
    refine ⟨rfl, ?_⟩
    first
      | exact Below.refl _ _
      | exact (Below.refl _ _).alloc (Nat.le_refl _) _
      | exact ((Below.refl _ _).alloc (Nat.le_refl _) _).alloc (by simp) _
      | exact (((Below.refl _ _).alloc (Nat.le_refl _) _).alloc (by simp) _).alloc (by simp; omega) _
set_option maxRecDepth 100000 in
set_option maxHeartbeats 4000000 in
theorem diskNone_walk (a0 : Int) (A1 : Option Addr) (c1 : Nat) (l1 : List Nat) (w : World) (w0 : (Lit.int .i64 a0).wf = true) (hr1 : Rd w A1 l1) (hl1 : l1.length ≤ c1) (hm1 : c1 ≤ maxLen) :
    Calls Try.prog 7 #[.int .i64 a0, .slice A1 l1.length c1] w fun e w' => e = .returned (.bool true) ∧ Below w.heap.size w w' := by
  clear w0 hr1 hl1 hm1
  go_enter Try.func7, Try.ntmps7
  go_wp2_with fail
  have hB0 : Below w.heap.size w ((w.alloc (.cells #[.bool false, .int .i64 0, .slice none 0 0, .slice none 0 0, .int .i64 0, .bool false, .int .i64 0, .int .i64 0, .int .i64 0] 58)).alloc (.cells #[.pointer none, .pointer (some ⟨w.heap.size, 0, none⟩)] 35)) := ((Below.refl _ _).alloc (Nat.le_refl _) _).alloc (by simp) _
  have c0 : ((w.alloc (.cells #[.bool false, .int .i64 0, .slice none 0 0, .slice none 0 0, .int .i64 0, .bool false, .int .i64 0, .int .i64 0, .int .i64 0] 58)).alloc (.cells #[.pointer none, .pointer (some ⟨w.heap.size, 0, none⟩)] 35)).cell? ⟨w.heap.size + 1, 0, none⟩ = some (.pointer none) := by
    rw [cell_of_row _ _ _ _ _ _ (heap_alloc2_new _ _ _)]; rfl
  have c1 : ((w.alloc (.cells #[.bool false, .int .i64 0, .slice none 0 0, .slice none 0 0, .int .i64 0, .bool false, .int .i64 0, .int .i64 0, .int .i64 0] 58)).alloc (.cells #[.pointer none, .pointer (some ⟨w.heap.size, 0, none⟩)] 35)).cell? ⟨w.heap.size + 1, 1, none⟩ = some (.pointer (some ⟨w.heap.size, 0, none⟩)) := by
    rw [cell_of_row _ _ _ _ _ _ (heap_alloc2_new _ _ _)]; rfl
  have c2 : ((w.alloc (.cells #[.bool false, .int .i64 0, .slice none 0 0, .slice none 0 0, .int .i64 0, .bool false, .int .i64 0, .int .i64 0, .int .i64 0] 58)).alloc (.cells #[.pointer none, .pointer (some ⟨w.heap.size, 0, none⟩)] 35)).cell? ⟨w.heap.size, 0, none⟩ = some (.bool false) := by
    rw [cell_of_row _ _ _ _ _ _ (heap_alloc2_old _ _ _)]; rfl
  generalize (w.alloc (.cells #[.bool false, .int .i64 0, .slice none 0 0, .slice none 0 0, .int .i64 0, .bool false, .int .i64 0, .int .i64 0, .int .i64 0] 58)).alloc (.cells #[.pointer none, .pointer (some ⟨w.heap.size, 0, none⟩)] 35) = W at *
  have HB0 := Lib.hid hB0
  have h0 : w.heap.size + 1 < W.heap.size := block_lt_of_cell c0
  have C0 := Lib.hid c0
  have C1 := Lib.hid c1
  have C2 := Lib.hid c2
  clear c0 c1 c2 hB0
  go_loopw [15] (fun i wr => ∃ k : Nat, k ≤ 2 ∧ i = .int .i64 k ∧ Below W.heap.size W wr) (fun i _ => 2 - (intOf i).toNat)
  case atStart => exact ⟨0, by omega, rfl, Below.refl _ _⟩
  case round =>
    obtain ⟨k, hk, rfl, hb⟩ := hrel
    have hsz := hb.size
    have hcase : k = 0 ∨ k = 1 ∨ k = 2 := by omega
    rcases hcase with rfl | rfl | rfl
    · have x0 := (hb.cell (p := ⟨w.heap.size + 1, 0, none⟩) h0).trans C0.out
      have HN : Hid (Nn wr (.pointer none)) := .inl rfl
      have HB := Lib.hid hb
      have HA0 : Hid (Below wr.heap.size wr wr) := Below.refl _ _
      clear hb
      go_wp2_with fail
      refine (readAt_nn (HN.out.below HA0.out) a0 a0).mono ?_
      rintro e w1 ⟨rfl, hb⟩
      have HA1 : Hid (Below wr.heap.size wr w1) := HA0.out.trans (hb.mono HA0.out.size)
      clear hb
      go_wp2_with fail
      refine (append_nn (HN.out.below HA1.out) A1 l1.length c1).mono ?_
      rintro e w2 ⟨rfl, hb⟩
      have HA2 : Hid (Below wr.heap.size wr w2) := HA1.out.trans (hb.mono HA1.out.size)
      clear hb
      go_wp2_with fail
      refine (sync_nn (HN.out.below HA2.out)).mono ?_
      rintro e w3 ⟨rfl, hb⟩
      have HA3 : Hid (Below wr.heap.size wr w3) := HA2.out.trans (hb.mono HA2.out.size)
      clear hb
      go_wp2_with fail
      refine (trunc_nn (HN.out.below HA3.out) a0).mono ?_
      rintro e w4 ⟨rfl, hb⟩
      have HA4 : Hid (Below wr.heap.size wr w4) := HA3.out.trans (hb.mono HA3.out.size)
      clear hb
      go_wp2_with fail
      refine (arm_nn (HN.out.below HA4.out) a0).mono ?_
      rintro e w5 ⟨rfl, hb⟩
      have HA5 : Hid (Below wr.heap.size wr w5) := HA4.out.trans (hb.mono HA4.out.size)
      clear hb
      go_wp2_with fail
      refine (fail_nn (HN.out.below HA5.out) a0 10).mono ?_
      rintro e w6 ⟨rfl, hb⟩
      have HA6 : Hid (Below wr.heap.size wr w6) := HA5.out.trans (hb.mono HA5.out.size)
      clear hb
      go_wp2_with fail
      refine (crash_nn (HN.out.below HA6.out) 0 none 0 0).mono ?_
      rintro e w7 ⟨rfl, hb⟩
      have HA7 : Hid (Below wr.heap.size wr w7) := HA6.out.trans (hb.mono HA6.out.size)
      clear hb
      go_wp2_with fail
      refine (size_nn (HN.out.below HA7.out)).mono ?_
      rintro e w8 ⟨rfl, hb⟩
      have HA8 : Hid (Below wr.heap.size wr w8) := HA7.out.trans (hb.mono HA7.out.size)
      clear hb
      go_wp2_with fail
      refine (synced_nn (HN.out.below HA8.out)).mono ?_
      rintro e w9 ⟨rfl, hb⟩
      have HA9 : Hid (Below wr.heap.size wr w9) := HA8.out.trans (hb.mono HA8.out.size)
      clear hb
      go_wp2_with fail
      refine (image_nn (HN.out.below HA9.out)).mono ?_
      rintro e w10 ⟨rfl, hb⟩
      have HA10 : Hid (Below wr.heap.size wr w10) := HA9.out.trans (hb.mono HA9.out.size)
      clear hb
      go_wp2_with fail
      refine (down_nn (HN.out.below HA10.out)).mono ?_
      rintro e w11 ⟨rfl, hb⟩
      have HA11 : Hid (Below wr.heap.size wr w11) := HA10.out.trans (hb.mono HA10.out.size)
      clear hb
      go_wp2_with fail
      refine (copy_nn (HN.out.below HA11.out)).mono ?_
      rintro e w12 ⟨rfl, hb⟩
      have HA12 : Hid (Below wr.heap.size wr w12) := HA11.out.trans (hb.mono HA11.out.size)
      clear hb
      go_wp2_with fail
      have HBx : Hid (Below W.heap.size W w12) := HB.out.trans (HA12.out.mono hsz)
      go_roundw
      case rel =>
        first
          | exact ⟨1, by omega, by go_num, HBx.out⟩
          | exact ⟨2, by omega, by go_num, HBx.out⟩
      case measure => simp [intOf]
    · have x0 := (hb.cell (p := ⟨w.heap.size + 1, 1, none⟩) h0).trans C1.out
      have HN : Hid (Nn wr (.pointer (some ⟨w.heap.size, 0, none⟩))) := .inr ⟨_, rfl, (hb.cell (p := ⟨w.heap.size, 0, none⟩) (by show w.heap.size < W.heap.size; omega)).trans C2.out⟩
      have HB := Lib.hid hb
      have HA0 : Hid (Below wr.heap.size wr wr) := Below.refl _ _
      clear hb
      go_wp2_with fail
      refine (readAt_nn (HN.out.below HA0.out) a0 a0).mono ?_
      rintro e w1 ⟨rfl, hb⟩
      have HA1 : Hid (Below wr.heap.size wr w1) := HA0.out.trans (hb.mono HA0.out.size)
      clear hb
      go_wp2_with fail
      refine (append_nn (HN.out.below HA1.out) A1 l1.length c1).mono ?_
      rintro e w2 ⟨rfl, hb⟩
      have HA2 : Hid (Below wr.heap.size wr w2) := HA1.out.trans (hb.mono HA1.out.size)
      clear hb
      go_wp2_with fail
      refine (sync_nn (HN.out.below HA2.out)).mono ?_
      rintro e w3 ⟨rfl, hb⟩
      have HA3 : Hid (Below wr.heap.size wr w3) := HA2.out.trans (hb.mono HA2.out.size)
      clear hb
      go_wp2_with fail
      refine (trunc_nn (HN.out.below HA3.out) a0).mono ?_
      rintro e w4 ⟨rfl, hb⟩
      have HA4 : Hid (Below wr.heap.size wr w4) := HA3.out.trans (hb.mono HA3.out.size)
      clear hb
      go_wp2_with fail
      refine (arm_nn (HN.out.below HA4.out) a0).mono ?_
      rintro e w5 ⟨rfl, hb⟩
      have HA5 : Hid (Below wr.heap.size wr w5) := HA4.out.trans (hb.mono HA4.out.size)
      clear hb
      go_wp2_with fail
      refine (fail_nn (HN.out.below HA5.out) a0 10).mono ?_
      rintro e w6 ⟨rfl, hb⟩
      have HA6 : Hid (Below wr.heap.size wr w6) := HA5.out.trans (hb.mono HA5.out.size)
      clear hb
      go_wp2_with fail
      refine (crash_nn (HN.out.below HA6.out) 0 none 0 0).mono ?_
      rintro e w7 ⟨rfl, hb⟩
      have HA7 : Hid (Below wr.heap.size wr w7) := HA6.out.trans (hb.mono HA6.out.size)
      clear hb
      go_wp2_with fail
      refine (size_nn (HN.out.below HA7.out)).mono ?_
      rintro e w8 ⟨rfl, hb⟩
      have HA8 : Hid (Below wr.heap.size wr w8) := HA7.out.trans (hb.mono HA7.out.size)
      clear hb
      go_wp2_with fail
      refine (synced_nn (HN.out.below HA8.out)).mono ?_
      rintro e w9 ⟨rfl, hb⟩
      have HA9 : Hid (Below wr.heap.size wr w9) := HA8.out.trans (hb.mono HA8.out.size)
      clear hb
      go_wp2_with fail
      refine (image_nn (HN.out.below HA9.out)).mono ?_
      rintro e w10 ⟨rfl, hb⟩
      have HA10 : Hid (Below wr.heap.size wr w10) := HA9.out.trans (hb.mono HA9.out.size)
      clear hb
      go_wp2_with fail
      refine (down_nn (HN.out.below HA10.out)).mono ?_
      rintro e w11 ⟨rfl, hb⟩
      have HA11 : Hid (Below wr.heap.size wr w11) := HA10.out.trans (hb.mono HA10.out.size)
      clear hb
      go_wp2_with fail
      refine (copy_nn (HN.out.below HA11.out)).mono ?_
      rintro e w12 ⟨rfl, hb⟩
      have HA12 : Hid (Below wr.heap.size wr w12) := HA11.out.trans (hb.mono HA11.out.size)
      clear hb
      go_wp2_with fail
      have HBx : Hid (Below W.heap.size W w12) := HB.out.trans (HA12.out.mono hsz)
      go_roundw
      case rel =>
        first
          | exact ⟨1, by omega, by go_num, HBx.out⟩
          | exact ⟨2, by omega, by go_num, HBx.out⟩
      case measure => simp [intOf]
    · have HB := Lib.hid hb
      clear hb
      go_wp2_with fail
      refine (awake_any wr).mono ?_
      rintro e w' ⟨rfl, hb⟩
      have HB1 : Hid (Below W.heap.size W w') := HB.out.trans (hb.mono hsz)
      clear hb
      go_wp2_with fail
      go_ret
      exact ⟨rfl, HB0.out.trans (HB1.out.mono HB0.out.size)⟩
end Go.Proofs.Ytkmjbfednmidbaa
