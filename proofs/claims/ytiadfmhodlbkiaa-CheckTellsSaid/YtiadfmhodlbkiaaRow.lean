/-
  ARGUMENTS OF A ROW, OPENED: a slice of bytes, nil or not. Conditions: none.
-/
import Derived.Test.YtiadfmhodlbkiaaBytes
import Derived.ProofKit
import Derived.OpenShut
namespace Go.Proofs.Ytiadfmhodlbkiaa
open Go.RowKit Go.ChangeShapes Go.WideShapes Go.ChangeAt
set_option linter.unusedSimpArgs false
set_option linter.unusedVariables false

theorem laidOut : laidOutB Try.prog = true := by kernel_rfl
theorem nat_of_u8 {x : Int} (h : (Lit.int .u8 x).wf = true) : ∃ n : Nat, n < 256 ∧ x = n := by
  simp [Lit.wf, IntKind.min, IntKind.max, IntKind.signed, IntKind.bits] at h
  exact ⟨x.toNat, by omega, by omega⟩
theorem i64_of_wf {x : Int} (h : (Lit.int .i64 x).wf = true) : -9223372036854775808 ≤ x ∧ x ≤ 9223372036854775807 := by
  simp [Lit.wf, IntKind.min, IntKind.max, IntKind.signed, IntKind.bits] at h
  omega
/-- An argument of type []byte. -/
theorem open_sl {H : Type} {enc : TypeId × Value → H} {P : Program} {t e : TypeId} {W : World} {r : Reach} {b0 : Nat} {v : Value} {d : DataW H} {p : List MemPlace} (ht : P.underlying t = some (.slice e)) (he : P.underlying e = some (.int .u8)) (hc : P.cellsOf e = 1)
    (hval : Value.okWide P W r b0 t v) (h0 : DataW.Trod enc P W 0 (fun _ => true) true t v d p) :
    ∃ (A : Option Addr) (c : Nat) (l : List Nat), v = .slice A l.length c ∧ l.length ≤ c ∧ c ≤ maxLen ∧ Rd W A l := by
  obtain ⟨a0, len, cap, rfl⟩ := okWide_slice ht hval
  obtain ⟨fuel, hf⟩ := h0
  rcases open_ints ht he hc hf with ⟨hcs, hx⟩ | ⟨a, len', cap', zs, hcs, _, hl, hm, hz, hx, hcell, hwz⟩
  · simp [Value.cells] at hcs
    obtain ⟨rfl, rfl, rfl⟩ := hcs
    exact ⟨none, 0, [], rfl, Nat.le_refl _, by simp, Rd.nil⟩
  · simp [Value.cells] at hcs
    obtain ⟨rfl, rfl, rfl⟩ := hcs
    simp only [if_true] at hz
    have hln : ((zs.take len).map Int.toNat).length = len := by simp; omega
    refine ⟨some a, cap, (zs.take len).map Int.toNat, by rw [hln], by omega, hm, ?_, fun hn => ?_⟩
    · intro x hx
      simp only [List.mem_map] at hx
      obtain ⟨z, hz', rfl⟩ := hx
      obtain ⟨k, hk, rfl⟩ := nat_of_u8 (hwz z (List.mem_of_mem_take hz'))
      simpa using hk
    · have h0 : 0 < len := by
        rw [← hln]
        exact List.length_pos_iff.2 hn
      obtain ⟨b, off, s⟩ := a
      have hs0 := hcell 0 (by omega)
      obtain rfl : s = none := by simpa [Addr.add] using World.cell?_spot hs0
      refine ⟨b, off, rfl, ?_, fun i hi => ?_⟩
      · have := World.block_lt_of_cell? _ _ hs0
        simpa [add_none] using this
      · rw [hln] at hi
        have h1 := hcell i (by omega)
        rw [add_none] at h1
        rw [h1]
        obtain ⟨k, hk, e1⟩ := nat_of_u8 (hwz (zs.getD i 0) (by rw [List.getD_eq_getElem?_getD, List.getElem?_eq_getElem (by omega)]; exact List.getElem_mem _))
        rw [e1]
        have e2 : nth ((zs.take len).map Int.toNat) i = k := by
          have : i < zs.length := by omega
          simp [nth, List.getElem?_take, hi]
          rw [List.getD_eq_getElem?_getD, List.getElem?_eq_getElem this] at e1
          have e1 : zs[i] = (k : Int) := e1
          rw [List.getElem?_eq_getElem this, e1]
          simp
        rw [e2]
end Go.Proofs.Ytiadfmhodlbkiaa
