/-
  THE WALKS OF quillpressref18's letter, digit, stands, Signs. Conditions: none but sizes.
-/
import Derived.Test.YtkmjbfednmidbaaDoorLexW4
import Derived.Great.BuildSlice
namespace Go.Proofs.YtkmjbfednmidbaaDoor
open Go.RowKit
set_option linter.unusedSimpArgs false
set_option linter.unusedVariables false

theorem info_string : (Tryd.prog.info? 9).map (fun i => (i.zero, i.size, i.bytes)) = some (some (.string ⟨#[]⟩), 1, 16) := by kernel_rfl
theorem sig_list : sigA.toList = signsN.map (fun x => Value.string (mkS x)) := by kernel_rfl
theorem stands_eq (s p : ByteArray) (at' : Nat) (h : at' ≤ s.size) : List.isPrefixOf (strB p) ((strB s).drop at') = (decide (at' + p.size ≤ s.size) && ((s.extract at' (at' + p.size)).toList == p.toList)) := by
  rw [Bool.eq_iff_iff]
  simp only [Bool.and_eq_true, decide_eq_true_eq, str_eq, strB_extract]
  rw [List.isPrefixOf_iff_prefix, List.prefix_iff_eq_take, strB_length, show at' + p.size - at' = p.size by omega]
  constructor
  · intro h
    refine ⟨?_, h.symm⟩
    have := congrArg List.length h
    simp only [List.length_take, List.length_drop, strB_length] at this
    omega
  · exact fun h => h.2.symm
end Go.Proofs.YtkmjbfednmidbaaDoor
