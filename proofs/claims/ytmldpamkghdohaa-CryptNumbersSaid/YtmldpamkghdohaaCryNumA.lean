/-
  A DISK THAT New DID NOT MAKE, BEFORE crypt.Open; a list's beginning, turned. Conditions: none.
-/
import Derived.Test.YtmldpamkghdohaaCryA
namespace Go.Proofs.Ytmldpamkghdohaa
open Go.RowKit
set_option linter.unusedSimpArgs false
set_option linter.unusedVariables false

set_option maxRecDepth 100000 in
set_option maxHeartbeats 2000000 in
theorem copy_zero (g : Nat) (w : World) (h : w.cell? ⟨g, 0, none⟩ = some (.bool false)) : Calls Try.prog 77 #[.pointer (some ⟨g, 0, none⟩)] w fun e w' => e = .returned (.pointer none) ∧ Below w.heap.size w w' := by
  have H := Lib.hid h
  clear h
  go_enter Try.func77, Try.ntmps77
  go_wp2_with fail
  first
    | refine (none_zero g w H.out).mono ?_
    | refine (none_zero g _ (((Below.refl _ _).alloc (Nat.le_refl _) _).cell (p := ⟨g, 0, none⟩) (block_lt_of_cell H.out) |>.trans H.out)).mono ?_
  rintro e w' ⟨rfl, rfl⟩
  go_wp2_with fail
  first
    | go_ret
    | go_ret2
  refine ⟨rfl, ?_⟩
  first
    | exact Below.refl _ _
    | exact (Below.refl _ _).alloc (Nat.le_refl _) _
theorem cnone_zero (g : Nat) (w : World) (h : w.cell? ⟨g, 0, none⟩ = some (.bool false)) : Calls Try.prog 57 #[.pointer (some ⟨g, 0, none⟩)] w fun e w' => e = .returned (.bool true) ∧ Below w.heap.size w w' := by
  have H := Lib.hid h
  clear h
  go_enter Try.func57, Try.ntmps57
  go_wp2_with fail
  refine (copy_zero g w H.out).mono ?_
  rintro e w' ⟨rfl, hb⟩
  have HB := Lib.hid hb
  clear hb
  go_wp2_with fail
  go_ret
  exact ⟨rfl, HB.out⟩
theorem open_zero (g : Nat) (v : Value) (w : World) (h : w.cell? ⟨g, 0, none⟩ = some (.bool false)) : Calls Try.prog 29 #[.pointer (some ⟨g, 0, none⟩), v] w fun e w' => e = .returned (.tuple #[.pointer none, .int .i64 1]) ∧ Below w.heap.size w w' := by
  have H := Lib.hid h
  clear h
  go_enter Try.func29, Try.ntmps29
  go_wp2_with fail
  refine (cnone_zero g w H.out).mono ?_
  rintro e w' ⟨rfl, hb⟩
  have HB := Lib.hid hb
  clear hb
  go_wp2_with fail
  go_ret2
  exact ⟨rfl, HB.out⟩
end Go.Proofs.Ytmldpamkghdohaa
