/-
  'append(slices.Clip(s), b...)': an append to a slice without room. Conditions: both read as lists of bytes.
-/
import Derived.Test.YtmldpamkghdohaaDiskW1
import Derived.ArgAppend
import Derived.Deep.RegionLaw
namespace Go.Proofs.Ytmldpamkghdohaa
open Go.RowKit
set_option linter.unusedSimpArgs false
set_option linter.unusedVariables false

section
variable {w : World} {ops : Array Oper} {rest : List Oper} {o : Oper} {a : Act} {K : Act → World → Prop} {Q : Exit → Act → World → Prop} {E : Prop}
theorem run_append_clip (ty : TypeId) (B : Option Addr) (l : List Nat) (hB : Rd w B l) (A : Option Addr) (c : Nat) (m : List Nat) (hA : Rd w A m) (hn : l.length + m.length ≤ 140737488355328) :
    ∃ v' w' b, (Builtin.append_ #[26, 26] ty #[.slice B l.length l.length, .slice A m.length c]).run Try.prog w = .ok v' w' ∧ Sl w' v' (l ++ m) b ∧ (b = B.map (·.block) ∨ ∀ k, b = some k → w.heap.size ≤ k ∧ k < w'.heap.size) ∧ Below w.heap.size w w' := by
  obtain ⟨i, hi, hz, hs, hb⟩ := info_parts info_u8
  by_cases hm : m = []
  · subst hm
    refine ⟨.slice B l.length l.length, w, B.map (·.block), ?_, ⟨B, l.length, by simp, by simp, by omega, by simpa using hB, rfl⟩, .inl rfl, Below.refl _ _⟩
    rcases A with _ | ad
    all_goals
      rcases B with _ | bd
      all_goals simp [Builtin.append_, run_underlying Try.underlying26, sizeOf, typeInfo, hi, Builtin.lenOf, Builtin.firstCells, storeCells, loadCells, loadCellsFrom]
  · obtain ⟨g, off, rfl, hg, hc⟩ := hA.2 hm
    have hm0 : 0 < m.length := List.length_pos_iff.2 hm
    have hcells : ∀ j u, (bs m)[j]? = some u → w.cell? ((⟨g, off, none⟩ : Addr).add j) = some u := by
      intro j u hu
      have hj : j < m.length := by have := (List.getElem?_eq_some_iff.1 hu).1; simpa [bs_length] using this
      rw [add_none, hc j hj, nth_get hj]
      rw [bs_get hj] at hu
      exact hu
    have fin : ∀ v' w', w'.ownsRow w.heap.size 5 1 v' (l.length + m.length) (bs l ++ bs m) → ∃ b, Sl w' v' (l ++ m) b ∧ ∀ k, b = some k → w.heap.size ≤ k ∧ k < w'.heap.size := fun v' w' h => by
      have : Ow w' w.heap.size v' (l ++ m) := ⟨fun x hx => by
        rcases List.mem_append.1 hx with h | h
        · exact hB.1 x h
        · exact hA.1 x h, by rw [List.length_append, bs_append]; exact h⟩
      obtain ⟨b, h1, h2⟩ := this.sl
      exact ⟨b, h1, fun k e => ⟨(h2 k e).1, this.ownLt (h2 k e).2⟩⟩
    rcases B with _ | bd
    · have hl : l = [] := by
        cases l with
        | nil => rfl
        | cons x t => obtain ⟨g, o, e, _⟩ := hB.2 (by simp); cases e
      subst hl
      obtain ⟨v', w', hrun, h2, h3, _⟩ := run_append_own (P := Try.prog) w w.heap.size 26 ty 5 i (.int .u8 0) 1 1 Try.underlying26 hi hz hs hb rfl (by omega) (.slice none 0 0) 0 [] (World.ownsRow_nil w _ _ _) ⟨g, off, none⟩ m.length c (bs m)
        (by rw [bs_length, Nat.mul_one]) hcells (bs_oneCell m) (by unfold maxLen; simp at hn; omega) (by simp at hn; omega) (Nat.le_refl _)
      obtain ⟨b, h4, h5⟩ := fin v' w' (by simpa [bs] using h2)
      exact ⟨v', w', b, hrun, h4, .inr h5, (Below.refl _ _).grown h3 (Nat.le_refl _) (by simp [Value.ownBlock])⟩
    · obtain ⟨v', w', hrun, h2, h3⟩ := run_append_arg_grows (P := Try.prog) w 26 ty 5 i (.int .u8 0) 1 1 Try.underlying26 hi hz hs hb rfl (by omega) bd l.length l.length (bs l) (by rw [bs_length, Nat.mul_one])
        (fun j u hu => by
          have hj : j < l.length := by have := (List.getElem?_eq_some_iff.1 hu).1; simpa [bs_length] using this
          obtain ⟨g', o', e, _, hc'⟩ := hB.2 (by rintro rfl; simp at hj)
          obtain rfl := Option.some.inj e
          rw [add_none, hc' j hj, nth_get hj]
          rw [bs_get hj] at hu
          exact hu)
        ⟨g, off, none⟩ m.length c (bs m) (by rw [bs_length, Nat.mul_one]) hcells (by omega) (by unfold maxLen; omega) (by omega)
      obtain ⟨b, h4, h5⟩ := fin v' w' h2
      exact ⟨v', w', b, hrun, h4, .inr h5, (Below.refl _ _).grown h3 (Nat.le_refl _) (by simp)⟩
theorem step_append_clip (s x : Operand) (hgd : o.guard = none) (ho : o.op = .call { callee := .builtin .append, args := #[s, x], argTypes := #[26, 26] })
    (B : Option Addr) (n : Nat) (l : List Nat) (hnl : n = l.length) (hs : a.eval s = .slice B n n) (hB : Rd w B l) (A : Option Addr) (k c : Nat) (m : List Nat) (hkm : k = m.length) (hx : a.eval x = .slice A k c) (hA : Rd w A m) (hn : l.length + m.length ≤ 140737488355328)
    (h : ∀ v' w' b, Sl w' v' (l ++ m) b → (b = B.map (·.block) ∨ ∀ k, b = some k → w.heap.size ≤ k ∧ k < w'.heap.size) → Below w.heap.size w w' → K (a.put o.dst v') w') :
    if Region.wanted o (yielded ops a.tmps) = true then Oper.wp Try.prog o a w K Q else E := by
  subst hnl; subst hkm
  have hw : Region.wanted o (yielded ops a.tmps) = true := by simp [Region.wanted, hgd]
  rw [if_pos hw]
  obtain ⟨v', w', b, hrun, h1, h2, h3⟩ := run_append_clip o.type B l hB A c m hA hn
  unfold Oper.wp execOp
  simp only [ho, resolve, invoke, builtin, Sem.run_bind, Sem.run_pure, Result.andThen_ok, List.map_toArray, List.map_cons, List.map_nil, hs, hx, hrun]
  exact h v' w' b h1 h2 h3
end
end Go.Proofs.Ytmldpamkghdohaa
