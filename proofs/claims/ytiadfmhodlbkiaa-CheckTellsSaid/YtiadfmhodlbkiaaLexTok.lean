/-
  A LIST OF TOKENS IN MEMORY, append to it. Conditions: the slice is the call's own, or nil.
-/
import Derived.Test.YtiadfmhodlbkiaaLexW3
import Derived.Maps.AppendAt
namespace Go.Proofs.Ytiadfmhodlbkiaa
open Go.RowKit
set_option linter.unusedSimpArgs false
set_option linter.unusedVariables false

def tokC (t : Tok) : List Value := [.int .u8 t.k, .string (mkS t.s), .int .i64 t.n, .int .i64 t.ln]
def tokF (l : List Tok) : List Value := l.flatMap tokC
theorem tokF_length (l : List Tok) : (tokF l).length = l.length * 4 := by
  induction l with
  | nil => rfl
  | cons a l ih =>
    have : tokF (a :: l) = tokC a ++ tokF l := rfl
    rw [this, List.length_append, ih]
    simp [tokC]
    omega
theorem tokF_app (l : List Tok) (t : Tok) : tokF (l ++ [t]) = tokF l ++ tokC t := by simp [tokF]
theorem tokF_get {l : List Tok} {i j : Nat} (hi : i < l.length) (hj : j < 4) : (tokF l)[i * 4 + j]? = (tokC l[i])[j]? := by
  induction l generalizing i with
  | nil => simp at hi
  | cons a l ih =>
    have e : tokF (a :: l) = tokC a ++ tokF l := rfl
    have h4 : (tokC a).length = 4 := rfl
    cases i with
    | zero => rw [e, Nat.zero_mul, Nat.zero_add, List.getElem?_append_left (by omega)]; rfl
    | succ i =>
      rw [e, List.getElem?_append_right (by omega), h4, show (i + 1) * 4 + j - 4 = i * 4 + j by omega, ih (by simpa using hi)]
      rfl
/-- The call's own slice of tokens. -/
def To (w : World) (base : Nat) (v : Value) (l : List Tok) : Prop := w.ownsRow base 60 4 v l.length (tokF l)
theorem info_tok : (Try.prog.info? 60).map (fun i => (i.zero, i.size, i.bytes)) = some (some (.agg #[.int .u8 0, .string ⟨#[]⟩, .int .i64 0, .int .i64 0]), 4, 40) := by kernel_rfl
section
variable {w w' W : World} {base : Nat} {v : Value} {l : List Tok}
theorem To.nil (w : World) (base : Nat) : To w base (.slice none 0 0) [] := World.ownsRow_nil _ _ _ _
theorem To.below (h : To w base v l) (hb : Below w.heap.size w w') : To w' base v l :=
  h.kept (row := none) ⟨hb.os, hb.tape, hb.output, hb.size, fun k hk _ => hb.block k hk⟩ (by
    cases hv : v.ownBlock with
    | none => exact .inl rfl
    | some k => exact .inr (by simp))
theorem To.alloc (h : To w base v l) (o : Obj) : To (w.alloc o) base v l := World.ownsRow.alloc h o
theorem To.mono {base' : Nat} (h : To w base v l) (hb : base' ≤ base) : To w base' v l := ⟨h.1, h.2.imp id (fun ⟨g, cap, cur, e, hg, r⟩ => ⟨g, cap, cur, e, by omega, r⟩)⟩
theorem To.lt (h : To w base v l) : ∀ k, v.ownBlock = some k → base ≤ k ∧ k < w.heap.size := World.ownsRow.lt h
theorem To.set (h : To w base v l) {a : Addr} (ha : ∀ k, v.ownBlock = some k → a.block ≠ k) (u : Value) : To (w.setCell a u) base v l :=
  h.kept (row := some a.block) (grown_set (grown_refl w _) (.inl rfl) u) (by
    cases hv : v.ownBlock with
    | none => exact .inl rfl
    | some k => exact .inr (fun e => ha k hv (by injection e with e; exact e.symm)))
/-- What it looks like in memory. -/
theorem To.form (h : To w base v l) (hl : l ≠ []) : ∃ g c, v = .slice (some ⟨g, 0, none⟩) l.length c ∧ l.length ≤ c ∧ base ≤ g ∧ g < w.heap.size ∧
    ∀ i (hi : i < l.length), w.cell? ⟨g, i * 4, none⟩ = some (.int .u8 l[i].k) ∧ w.cell? ⟨g, i * 4 + 1, none⟩ = some (.string (mkS l[i].s)) ∧ w.cell? ⟨g, i * 4 + 2, none⟩ = some (.int .i64 l[i].n) ∧ w.cell? ⟨g, i * 4 + 3, none⟩ = some (.int .i64 l[i].ln) := by
  have hl0 : 0 < l.length := List.length_pos_iff.2 hl
  obtain ⟨hlen, h | ⟨g, cap, cur, rfl, hg, hh, hcap, hm, hs, ht⟩⟩ := h
  · omega
  · refine ⟨g, cap, rfl, hcap, hg, lt_of_block hh, fun i hi => ?_⟩
    have key : ∀ j, j < 4 → w.cell? ⟨g, i * 4 + j, none⟩ = (tokC l[i])[j]? := fun j hj => by
      rw [cell_of_row w g (i * 4 + j) cur _ _ hh, ← tokF_get hi hj, ← ht, List.getElem?_take, if_pos (by omega), Array.getElem?_toList]
    exact ⟨key 0 (by omega), key 1 (by omega), key 2 (by omega), key 3 (by omega)⟩

variable {ops : Array Oper} {rest : List Oper} {o : Oper} {a : Act} {Q : Exit → Act → World → Prop}
/-- 'out = append(out, t)' behind the block that was made for t. -/
theorem append_tok (s x : Operand) (hgd : o.guard = none) (ho : o.op = .call { callee := .builtin .append, args := #[s, x], argTypes := #[37, 37] }) (c : Nat) (t : Tok) (cs : Array Value) (hcs : cs.toList = tokC t)
    (hs : a.eval s = v) (H : Nat) (hx : a.eval x = .slice (some ⟨H, 0, none⟩) 1 c) (hH : W.heap.size = H) (hown : To W base v l)
    (hn : l.length + 1 ≤ 1000000) (hbase : base ≤ W.heap.size)
    (h : ∀ v' w', To w' base v' (l ++ [t]) → W.grownBy w' v.ownBlock → wpList Try.prog ops Q rest (a.put o.dst v') w') :
    wpList Try.prog ops Q (o :: rest) a (W.alloc (.cells cs 60)) := by
  subst hH
  refine wpList_plain hgd fun _ hK => ?_
  obtain ⟨i, hi, hz, hs1, hb⟩ := info_parts info_tok
  obtain ⟨v', w', hrun, h2, h3, _, h5⟩ := run_append_own_at (P := Try.prog) (W.alloc (.cells cs 60)) base 37 o.type 60 i _ 4 40 Try.underlying37 hi hz hs1 hb rfl (by omega) v l.length (tokF l) (hown.alloc _) ⟨W.heap.size, 0, none⟩ 1 c (tokC t)
    rfl (fun j u hj => by
      rw [add_none, Nat.zero_add, cell_of_row _ _ _ _ _ _ (heap_alloc_new W _), ← Array.getElem?_toList, hcs]
      exact hj) (fun u hu => by simp [tokC] at hu; rcases hu with rfl | rfl | rfl | rfl <;> rfl) (by unfold maxLen; omega) (by omega) (by rw [World.size_alloc]; omega)
  unfold Oper.wp execOp
  simp only [ho, resolve, invoke, builtin, Sem.run_bind, Sem.run_pure, Result.andThen_ok, List.map_toArray, List.map_cons, List.map_nil, hs, hx, hrun]
  refine hK _ _ (h v' w' ?_ (nil_grown (World.grownBy_alloc _ _ _) h3))
  show World.ownsRow _ _ _ _ _ _ _
  rw [tokF_app, List.length_append]
  exact h2
end
end Go.Proofs.Ytiadfmhodlbkiaa
