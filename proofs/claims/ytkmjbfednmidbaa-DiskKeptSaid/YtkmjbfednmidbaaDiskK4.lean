/-
  DiskKept, of the arguments as a row hands them. Conditions: they are well formed.
-/
import Derived.Test.YtkmjbfednmidbaaDiskK3
import Derived.Test.YtkmjbfednmidbaaArgsC
namespace Go.Proofs.Ytkmjbfednmidbaa
open Go.RowKit Go.ChangeShapes Go.WideShapes Go.ChangeAt
set_option linter.unusedSimpArgs false
set_option linter.unusedVariables false
theorem diskKept_walk (v0 : Value) (a1 : Int) (v2 : Value) (w : World) {H : Type} (enc : TypeId × Value → H) (d0 : DataW H) (p0 : List MemPlace) {r : Reach} {b0 : Nat} (h0 : DataW.Trod enc Try.prog w 0 (fun _ => true) true 31 v0 d0 p0) (hv0 : Value.okWide Try.prog w r b0 31 v0)
    (w1 : (Lit.int .i64 a1).wf = true) (d2 : DataW H) (p2 : List MemPlace) (h2 : DataW.Trod enc Try.prog w 0 (fun _ => true) true 34 v2 d2 p2) (hv2 : Value.okWide Try.prog w r b0 34 v2) :
    Calls Try.prog 4 #[v0, .int .i64 a1, v2] w fun e w' => e = .returned (.bool true) ∧ Below w.heap.size w w' := by
  obtain ⟨A, c, L, rfl, hlc, hcm, hL⟩ := open_rds Try.underlying31 Try.underlying32 Try.underlying5 (by kernel_rfl) (by kernel_rfl) hv0 h0
  obtain ⟨k, A2, c2, l2, rfl, hk, hl2, hc2, hr2⟩ := open_crash hv2 h2
  have hb := (i64_of_wf hk)
  exact diskKept_any A c L a1 k A2 c2 l2 w hL (by unfold maxLen at hcm; omega) hb.1 hb.2 _ rfl hr2 (by unfold maxLen at hc2; omega)
end Go.Proofs.Ytkmjbfednmidbaa
