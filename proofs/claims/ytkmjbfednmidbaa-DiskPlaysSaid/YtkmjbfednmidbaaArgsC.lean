/-
  AN ARGUMENT OF TYPE api.Crash, OPENED. Conditions: none.
-/
import Derived.Test.YtkmjbfednmidbaaArgs
namespace Go.Proofs.Ytkmjbfednmidbaa
open Go.RowKit Go.ChangeShapes Go.WideShapes Go.ChangeAt
set_option linter.unusedSimpArgs false
set_option linter.unusedVariables false

theorem open_crash {H : Type} {enc : TypeId × Value → H} {W : World} {r : Reach} {b0 : Nat} {v : Value} {d : DataW H} {p : List MemPlace} (hval : Value.okWide Try.prog W r b0 34 v) (h0 : DataW.Trod enc Try.prog W 0 (fun _ => true) true 34 v d p) :
    ∃ (k : Int) (A : Option Addr) (c : Nat) (l : List Nat), v = .agg #[.int .i64 k, .slice A l.length c] ∧ (Lit.int .i64 k).wf = true ∧ l.length ≤ c ∧ c ≤ maxLen ∧ Rd W A l := by
  obtain ⟨cs, rfl, hs⟩ := okWide_struct Try.underlying34 hval
  have hs : cs.size = 2 := hs.trans (by kernel_rfl)
  obtain ⟨fuel, hf⟩ := h0
  obtain ⟨xs, n, _, _, _, hx, hfs⟩ := DataW.trod_struct Try.underlying34 hf
  have hx : xs.length = 2 := hx
  have h1 := hfs 0 _ rfl
  have h2 := hfs 1 _ rfl
  rw [List.getElem?_eq_getElem (by omega)] at h1 h2
  obtain ⟨k, e1, -, hw⟩ := DataW.trod_int Try.underlying3 h1
  obtain ⟨A, c, l, e2, q1, q2, q3⟩ := open_slT Try.underlying32 Try.underlying5 (by kernel_rfl) h2
  have c1 : Try.prog.cellsOf 3 = 1 := by kernel_rfl
  have c2 : Try.prog.cellsOf 32 = 1 := by kernel_rfl
  exact ⟨k, A, c, l, congrArg Value.agg (agg_two hs (by rw [← c1]; exact e1) (by rw [← c2]; exact e2)), hw, q1, q2, q3⟩
end Go.Proofs.Ytkmjbfednmidbaa
