/-
  AN ARRAY OF BYTES BY VALUE, OPENED AND SHUT: what a row's argument of such a type is, and that it reads as it did in whatever world. Conditions: the array's type is [n]byte.
-/
import Derived.Test.YtmldpamkghdohaaProg
import Derived.WalkKit
import Derived.OpenShut
import Derived.DataShut
namespace Go.Proofs.Ytmldpamkghdohaa
open Go.RowKit
set_option linter.unusedSimpArgs false
set_option linter.unusedVariables false

theorem trod_u8 {H : Type} {enc : TypeId × Value → H} {P : Program} {w : World} {base : Nat} {spare : Nat → Bool} {held : Bool} {e : TypeId} {n : Int} (m : Nat) (he : P.underlying e = some (.int .u8)) (hw : (Lit.int .u8 n).wf = true) :
    DataW.trod enc P w base spare held (m + 1) e [.int .u8 n] = some (.lit (.int .u8 n), []) := by
  simp [DataW.trod, he, hw]
theorem open_bytes {H : Type} {enc : TypeId × Value → H} {P : Program} {w : World} {r : Reach} {base b0 : Nat} {spare : Nat → Bool} {held : Bool} {t e : TypeId} {n : Nat} {v : Value} {d : DataW H} {ps : List MemPlace}
    (ht : P.underlying t = some (.array n e)) (he : P.underlying e = some (.int .u8)) (hc : P.cellsOf e = 1) (hct : P.cellsOf t = n)
    (hval : Value.okWide P w r b0 t v) (hd : DataW.Trod enc P w base spare held t v d ps) :
    ∃ (cs : Array Value) (f : Nat → Nat), v = .agg cs ∧ cs.size = n ∧ (∀ i, i < n → cs[i]? = some (.int .u8 (f i : Nat))) ∧ (∀ i, i < n → f i < 256) ∧ ps = [] ∧
      ∀ (W : World) (b : Nat) (sp : Nat → Bool) (h : Bool), DataW.Trod enc P W b sp h t v d [] := by
  unfold Value.okWide at hval
  rw [ht] at hval
  obtain ⟨cs, rfl, hs, _⟩ := hval
  rw [hct] at hs
  obtain ⟨fuel, hf⟩ := hd
  obtain ⟨xs, m, rfl, hx, hlen, hl, hel⟩ := DataW.trod_array ht hf
  have one : ∀ i, i < n → ∃ z : Int, cs[i]? = some (.int .u8 z) ∧ (Lit.int .u8 z).wf = true ∧ xs[i]? = some (.lit (.int .u8 z), []) ∧ ((cs.toList.drop i).take 1) = [.int .u8 z] := by
    intro i hi
    have hE := hel i hi
    rw [hc, Nat.mul_one, List.getElem?_eq_getElem (by omega)] at hE
    obtain ⟨z, e1, e2, e3⟩ := DataW.trod_int he hE
    refine ⟨z, ?_, e3, ?_, e1⟩
    · have h0 : ((cs.toList.drop i).take 1)[0]? = some (.int .u8 z) := by
        have e1' : ((cs.toList.drop i).take 1) = [.int .u8 z] := e1
        rw [e1']; rfl
      simpa using h0
    · rw [List.getElem?_eq_getElem (by omega), e2]
  have nat : ∀ z : Int, (Lit.int .u8 z).wf = true → ∃ k : Nat, k < 256 ∧ z = k := by
    intro z h
    simp [Lit.wf, IntKind.min, IntKind.max, IntKind.signed, IntKind.bits] at h
    exact ⟨z.toNat, by omega, by omega⟩
  have hp : ∀ x ∈ xs, x.2 = [] := by
    intro x hm
    obtain ⟨i, hi, rfl⟩ := List.mem_iff_getElem.1 hm
    obtain ⟨z, _, _, h3, _⟩ := one i (by omega)
    rw [List.getElem?_eq_getElem hi] at h3
    rw [Option.some.inj h3]
  have hp2 : xs.flatMap (·.2) = [] := by
    rw [List.flatMap_eq_nil_iff]
    exact hp
  refine ⟨cs, fun i => (match cs[i]? with | some (.int _ z) => z.toNat | _ => 0), rfl, hs, ?_, ?_, ?_, ?_⟩
  · intro i hi
    obtain ⟨z, h1, h2, _, _⟩ := one i hi
    obtain ⟨k, hk, rfl⟩ := nat z h2
    simp only [h1, Int.toNat_natCast]
  · intro i hi
    obtain ⟨z, h1, h2, _, _⟩ := one i hi
    obtain ⟨k, hk, rfl⟩ := nat z h2
    simp only [h1]; exact hk
  · rw [← hp2]; exact (Prod.mk.inj hx).2
  · intro W b sp h
    refine ⟨m + 2, ?_⟩
    unfold DataW.trod
    rw [ht]
    have hm : (List.range n).mapM (fun i => DataW.trod enc P W b sp h (m + 1) e ((cs.toList.drop (i * P.cellsOf e)).take (P.cellsOf e))) = some xs := by
      refine mapM_some_of_get _ _ (by simp [hl]) ?_
      intro i x hx'
      have hi : i < n := by
        rcases Nat.lt_or_ge i n with h' | h'
        · exact h'
        · rw [List.getElem?_eq_none (by simpa using h')] at hx'; cases hx'
      rw [List.getElem?_eq_getElem (by simpa using hi), List.getElem_range] at hx'
      obtain rfl := Option.some.inj hx'
      obtain ⟨z, h1, h2, h3, h4⟩ := one i hi
      rw [hc, Nat.mul_one, h4, h3]
      exact trod_u8 m he h2
    have hl' : (Value.cells (.agg cs)).toList.length = P.cellsOf t := hlen
    have hx1 : d = .agg (xs.map (·.1)) := (Prod.mk.inj hx).1
    show (if (Value.cells (.agg cs)).toList.length = P.cellsOf t then _ else none) = _
    rw [if_pos hl', show (Value.cells (.agg cs)).toList = cs.toList from rfl, hm, hx1]
    simp [hp2]
end Go.Proofs.Ytmldpamkghdohaa
