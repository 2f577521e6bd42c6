/-
  THE WALKS OF quillpresslaw03's awake; of a digest that New did not make; of DigestNone. Conditions: none.
-/
import Derived.Test.YtbnhjhdbjffnkabShaW7
import Derived.Test.YtbnhjhdbjffnkabArr
import Derived.Lib.SlBytesConst
import Derived.Lib.ConvBytes
namespace Go.Proofs.Ytbnhjhdbjffnkab
open Go.RowKit
set_option linter.unusedSimpArgs false
set_option linter.unusedVariables false

theorem sha_lt (l : List Nat) : ∀ x ∈ sha l, x < 256 := by
  intro x hx
  unfold sha sumOf at hx
  obtain ⟨i, _, rfl⟩ := List.mem_map.1 hx
  exact Nat.mod_lt _ (by omega)
theorem hex_nil : mkS (hexL (sha [])) = ⟨#[101, 51, 98, 48, 99, 52, 52, 50, 57, 56, 102, 99, 49, 99, 49, 52, 57, 97, 102, 98, 102, 52, 99, 56, 57, 57, 54, 102, 98, 57, 50, 52, 50, 55, 97, 101, 52, 49, 101, 52, 54, 52, 57, 98, 57, 51, 52, 99, 97, 52, 57, 53, 57, 57, 49, 98, 55, 56, 53, 50, 98, 56, 53, 53]⟩ := by rw [sha_nil]; kernel_rfl
theorem hex_abc : mkS (hexL (sha [97, 98, 99])) = ⟨#[98, 97, 55, 56, 49, 54, 98, 102, 56, 102, 48, 49, 99, 102, 101, 97, 52, 49, 52, 49, 52, 48, 100, 101, 53, 100, 97, 101, 50, 50, 50, 51, 98, 48, 48, 51, 54, 49, 97, 51, 57, 54, 49, 55, 55, 97, 57, 99, 98, 52, 49, 48, 102, 102, 54, 49, 102, 50, 48, 48, 49, 53, 97, 100]⟩ := by rw [sha_abc]; kernel_rfl
theorem constW_rd (w : World) (e : TypeId) (l : List Nat) (h : ∀ x ∈ l, x < 256) (fr : Nat × Nat) : Rd (w.alloc (.cells (l.map fun x => Value.int .u8 (x : Nat)).toArray e fr)) (some ⟨w.heap.size, 0, none⟩) l := by
  refine ⟨h, fun hl => ⟨w.heap.size, 0, rfl, by simp, fun i hi => ?_⟩⟩
  rw [Nat.zero_add, cell_of_row _ _ _ _ _ _ (heap_alloc_new w _), nth_get hi]
  simp [hi]
theorem hexOf (l : List Nat) (w : World) : Calls Try.prog 30 #[bytesV (sha l)] w fun e w' => e = .returned (.string (mkS (hexL (sha l)))) ∧ Below w.heap.size w w' := hex_any (sha l) (sha_length l) (sha_lt l) w
set_option maxRecDepth 100000 in
set_option maxHeartbeats 2000000 in
theorem shaAwake_any (w : World) : Calls Try.prog 14 #[] w fun e w' => e = .returned (.bool true) ∧ Below w.heap.size w w' := by
  have kc := fun (w : World) (C : Array Value) (n c : Nat) => Lib.run_convert_bytes_const (P := Try.prog) w 25 5 C n c Try.underlying25 Try.underlying5
  go_enter Try.func14, Try.ntmps14
  go_wp2_with fail
  refine (of_any none 0 [] w (by simp) Rd.nil).mono ?_
  rintro e w1 ⟨rfl, hb1⟩
  have HB1 := Lib.hid hb1
  clear hb1
  go_wp2_with fail
  refine (hexOf [] w1).mono ?_
  rintro e w2 ⟨rfl, hb2⟩
  rw [hex_nil]
  have HB2 : Hid (Below w.heap.size w w2) := HB1.out.trans (hb2.mono HB1.out.size)
  clear hb2
  go_wp2_with fail
  have hba : Below w.heap.size w (w2.alloc (.cells #[.int .u8 97, .int .u8 98, .int .u8 99] 5 (3, 3 + 1))) := HB2.out.alloc HB2.out.size _
  have hra := constW_rd w2 5 [97, 98, 99] (by simp) (3, 3 + 1)
  have HBA := Lib.hid hba
  refine (of_any (some ⟨w2.heap.size, 0, none⟩) 3 [97, 98, 99] _ (by simp) hra).mono ?_
  rintro e w3 ⟨rfl, hb3⟩
  have HB3 : Hid (Below w.heap.size w w3) := HBA.out.trans (hb3.mono HBA.out.size)
  clear hb3 hba hra
  go_wp2_with fail
  refine (hexOf [97, 98, 99] w3).mono ?_
  rintro e w4 ⟨rfl, hb4⟩
  rw [hex_abc]
  have HB4 : Hid (Below w.heap.size w w4) := HB3.out.trans (hb4.mono HB3.out.size)
  clear hb4
  go_wp2_with fail
  go_ret
  exact ⟨rfl, HB4.out⟩
end Go.Proofs.Ytbnhjhdbjffnkab
