/-
  A BYTE WRITTEN INTO A SLICE OF THE CALL's OWN.
-/
import Derived.Test.YtmldpamkghdohaaBytes
namespace Go.Proofs.Ytmldpamkghdohaa
open Go.RowKit
set_option linter.unusedSimpArgs false
set_option linter.unusedVariables false

/-- A byte written into a slice of the call's own. -/
theorem Ow.set {w : World} {base g n c : Nat} {l : List Nat} (h : Ow w base (.slice (some ⟨g, 0, none⟩) n c) l) {i : Nat} (hi : i < l.length) {x : Nat} (hx : x < 256) : Ow (w.setCell ⟨g, i, none⟩ (.int .u8 (x : Nat))) base (.slice (some ⟨g, 0, none⟩) n c) (l.set i x) := by
  obtain ⟨hb, hlen, ⟨h0, _⟩ | ⟨g', cap, cur, e, hg, hh, hn, hm, hs, ht⟩⟩ := h
  · cases h0
  · injection e with e1 e2 e3
    injection e1 with e1
    injection e1 with e1
    subst e1; subst e2; subst e3
    refine ⟨fun y hy => ?_, by rw [bs_length] at hlen ⊢; simp at hlen ⊢, .inr ⟨g, c, cur.setIfInBounds i (.int .u8 (x : Nat)), by simp, hg, ?_, by simpa using hn, hm, by simpa using hs, ?_⟩⟩
    · rcases List.mem_or_eq_of_mem_set hy with h | h
      · exact hb y h
      · rw [h]; exact hx
    · have hlt : g < w.heap.size := lt_of_block hh
      have hv : w.heap[g] = .cells cur 5 (0, 0) := (Array.getElem?_eq_some_iff.1 hh).2
      unfold World.setCell
      rw [Array.getElem?_eq_getElem (by simpa using hlt), Array.getElem_modify]
      simp [hv]
    · rw [Array.toList_setIfInBounds, List.length_set, Nat.mul_one, List.take_set]
      rw [Nat.mul_one] at ht
      rw [ht]
      simp [bs, bv]
end Go.Proofs.Ytmldpamkghdohaa
