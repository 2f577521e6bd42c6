/-
  DiskPlays, of the arguments as a row hands them. Conditions: they are well formed.
-/
import Derived.Test.YtkmjbfednmidbaaDiskP8
namespace Go.Proofs.Ytkmjbfednmidbaa
open Go.RowKit Go.ChangeShapes Go.WideShapes Go.ChangeAt
set_option linter.unusedSimpArgs false
set_option linter.unusedVariables false
theorem diskPlays_walk (a0 : Int) (A1 : Option Addr) (c1 : Nat) (l1 : List Nat) (v2 : Value) (w : World) (w0 : (Lit.int .i64 a0).wf = true) (hr1 : Rd w A1 l1) (hl1 : l1.length ≤ c1) (hm1 : c1 ≤ maxLen) {H : Type} (enc : TypeId × Value → H) (d2 : DataW H) (p2 : List MemPlace) {r : Reach} {b0 : Nat}
    (h2 : DataW.Trod enc Try.prog w 0 (fun _ => true) true 61 v2 d2 p2) (hv2 : Value.okWide Try.prog w r b0 61 v2) :
    Calls Try.prog 8 #[.int .i64 a0, .slice A1 l1.length c1, v2] w fun e w' => e = .returned (.bool true) ∧ Below w.heap.size w w' := by
  obtain ⟨A, c, L, rfl, hlc, hcm, hL⟩ := open_ops hv2 h2
  have hb := (i64_of_wf w0)
  exact diskPlays_any a0 A1 c1 l1 A c L w hb.1 hb.2 hr1 (by unfold maxLen at hm1; omega) hL (by unfold maxLen at hcm; omega)
end Go.Proofs.Ytkmjbfednmidbaa
