/-
  THE WALKS OF quillpressref18's letter, digit, stands, Signs. Conditions: none but sizes.
-/
import Derived.Test.YtkmjbfednmidbaaLexW4
import Derived.Great.BuildSlice
namespace Go.Proofs.Ytkmjbfednmidbaa
open Go.RowKit
set_option linter.unusedSimpArgs false
set_option linter.unusedVariables false

theorem rletter_any (c : Nat) (w : World) : Calls Try.prog 47 #[.int .u8 c] w fun e w' => e = .returned (.bool (letN c)) ∧ w = w' := by
  unfold letN
  by_cases h1 : 97 ≤ c
  · have k1 : (97 : Int) ≤ c := by omega
    by_cases h2 : c ≤ 122
    · have k2 : (c : Int) ≤ 122 := by omega
      go_enter Try.func47, Try.ntmps47
      go_wp2
      go_ret
      exact ⟨by simp [h1, h2], rfl⟩
    · have k2 : ¬ (c : Int) ≤ 122 := by omega
      go_enter Try.func47, Try.ntmps47
      go_wp2
      go_ret
      exact ⟨by simp [h1, h2], rfl⟩
  · have k1 : ¬ (97 : Int) ≤ c := by omega
    go_enter Try.func47, Try.ntmps47
    go_wp2
    go_ret
    exact ⟨by simp [h1], rfl⟩
theorem rdigit_any (c : Nat) (w : World) : Calls Try.prog 48 #[.int .u8 c] w fun e w' => e = .returned (.bool (digN c)) ∧ w = w' := by
  unfold digN
  by_cases h1 : 48 ≤ c
  · have k1 : (48 : Int) ≤ c := by omega
    by_cases h2 : c ≤ 57
    · have k2 : (c : Int) ≤ 57 := by omega
      go_enter Try.func48, Try.ntmps48
      go_wp2
      go_ret
      exact ⟨by simp [h1, h2], rfl⟩
    · have k2 : ¬ (c : Int) ≤ 57 := by omega
      go_enter Try.func48, Try.ntmps48
      go_wp2
      go_ret
      exact ⟨by simp [h1, h2], rfl⟩
  · have k1 : ¬ (48 : Int) ≤ c := by omega
    go_enter Try.func48, Try.ntmps48
    go_wp2
    go_ret
    exact ⟨by simp [h1], rfl⟩

theorem info_string : (Try.prog.info? 9).map (fun i => (i.zero, i.size, i.bytes)) = some (some (.string ⟨#[]⟩), 1, 16) := by kernel_rfl
theorem sig_list : sigA.toList = signsN.map (fun x => Value.string (mkS x)) := by kernel_rfl
theorem rsigns_any (w : World) : Calls Try.prog 49 #[] w fun e w' => e = .returned (.slice (some ⟨w.heap.size, 0, none⟩) 21 21) ∧ (∀ j, j < 21 → w'.cell? ⟨w.heap.size, j, none⟩ = some (.string (mkS (signsN.getD j [])))) ∧ w.heap.size < w'.heap.size ∧ Below w.heap.size w w' := by
  obtain ⟨i, hi, hz, hs, hb⟩ := info_parts info_string
  go_enter Try.func49, Try.ntmps49
  go_wp2_with (refine wpList_buildSlice rfl 84 9 21 _ rfl sigA i _ Try.underlying84 hi hz (by rw [hs]; decide) (by rw [hs]; decide) (by rw [hs]; kernel_rfl) ?_)
  go_ret
  refine ⟨rfl, fun j hj => ?_, by simp, (Below.refl _ _).alloc (Nat.le_refl _) _⟩
  rw [cell_of_row _ _ _ _ _ _ (heap_alloc_new w _)]
  rw [← Array.getElem?_toList, sig_list, List.getElem?_map, List.getD_eq_getElem?_getD, List.getElem?_eq_getElem (by rw [signs_eq]; exact hj)]
  rfl

theorem stands_eq (s p : ByteArray) (at' : Nat) (h : at' ≤ s.size) : List.isPrefixOf (strB p) ((strB s).drop at') = (decide (at' + p.size ≤ s.size) && ((s.extract at' (at' + p.size)).toList == p.toList)) := by
  rw [Bool.eq_iff_iff]
  simp only [Bool.and_eq_true, decide_eq_true_eq, str_eq, strB_extract]
  rw [List.isPrefixOf_iff_prefix, List.prefix_iff_eq_take, strB_length, show at' + p.size - at' = p.size by omega]
  constructor
  · intro h
    refine ⟨?_, h.symm⟩
    have := congrArg List.length h
    simp only [List.length_take, List.length_drop, strB_length] at this
    omega
  · exact fun h => h.2.symm
theorem stands_any (s p : ByteArray) (at' : Nat) (w : World) (ha : at' ≤ s.size) (hs : s.size ≤ 20000) (hp : p.size ≤ 3) :
    Calls Try.prog 50 #[.string s, .int .i64 at', .string p] w fun e w' => e = .returned (.bool (List.isPrefixOf (strB p) ((strB s).drop at'))) ∧ w = w' := by
  have hq := stands_eq s p at' ha
  have e1 : IntKind.i64.wrap ((at' : Int) + p.size) = at' + p.size := by simp [IntKind.wrap, IntKind.signed, IntKind.bits]; omega
  have e2 : ((at' : Int) + p.size).toNat = at' + p.size := by omega
  have e3 : 0 ≤ (at' : Int) + p.size := by omega
  by_cases h : at' + p.size ≤ s.size
  · rw [decide_eq_true h, Bool.true_and] at hq
    rw [hq]
    have k1 : (at' : Int) + p.size ≤ s.size := by omega
    have k2 : at' ≤ at' + p.size := by omega
    have k3 : (at' : Int) ≤ at' + p.size := by omega
    clear hq
    go_enter Try.func50, Try.ntmps50
    go_wp2
    go_ret
    exact ⟨rfl, rfl⟩
  · rw [decide_eq_false h, Bool.false_and] at hq
    rw [hq]
    have k1 : ¬ (at' : Int) + p.size ≤ s.size := by omega
    clear hq
    go_enter Try.func50, Try.ntmps50
    go_wp2
    go_ret
    exact ⟨rfl, rfl⟩
end Go.Proofs.Ytkmjbfednmidbaa
