/-
  PARTS IN MEMORY: a slice that reads as parts; a list of the call's own that grows. Conditions: the blocks are told by a predicate.
-/
import Derived.Test.YtiadfmhodlbkiaaParP1
import Derived.Maps.AppendAt
namespace Go.Proofs.Ytiadfmhodlbkiaa
open Go.RowKit
set_option linter.unusedSimpArgs false
set_option linter.unusedVariables false
def prF (l : List PartS) : List Value := l.flatMap ptC
theorem prF_length (l : List PartS) : (prF l).length = l.length * 7 := by
  induction l with
  | nil => rfl
  | cons a l ih =>
    have : prF (a :: l) = ptC a ++ prF l := rfl
    rw [this, List.length_append, ih]
    simp [ptC]
    omega
theorem prF_app (l : List PartS) (t : PartS) : prF (l ++ [t]) = prF l ++ ptC t := by simp [prF]
theorem prF_get {l : List PartS} {i j : Nat} (hi : i < l.length) (hj : j < 7) : (prF l)[i * 7 + j]? = (ptC l[i])[j]? := by
  induction l generalizing i with
  | nil => simp at hi
  | cons a l ih =>
    have e : prF (a :: l) = ptC a ++ prF l := rfl
    have h4 : (ptC a).length = 7 := rfl
    cases i with
    | zero => rw [e, Nat.zero_mul, Nat.zero_add, List.getElem?_append_left (by omega)]; rfl
    | succ i =>
      rw [e, List.getElem?_append_right (by omega), h4, show (i + 1) * 7 + j - 7 = i * 7 + j by omega, ih (by simpa using hi)]
      rfl
/-- A slice reads as parts. -/
def PrT (w : World) (S : Nat → Prop) (v : Value) (l : List PartS) : Prop :=
  ∃ A c, v = .slice A l.length c ∧ l.length ≤ c ∧ c ≤ maxLen ∧ (l ≠ [] → ∃ g o, A = some ⟨g, o, none⟩ ∧ S g ∧ g < w.heap.size ∧ ∀ i (hi : i < l.length) j, j < 7 → w.cell? ⟨g, o + (i * 7 + j), none⟩ = some (ptF l[i] j))
theorem PrT.keep {w w' : World} {S S' : Nat → Prop} {v : Value} {l : List PartS} (h : PrT w S v l) (hk : ∀ k, S k → k < w.heap.size → w'.heap[k]? = w.heap[k]?) (hz : w.heap.size ≤ w'.heap.size) (hS : ∀ k, S k → k < w.heap.size → S' k) : PrT w' S' v l := by
  obtain ⟨A, c, h2, h3, h4, h5⟩ := h
  refine ⟨A, c, h2, h3, h4, fun hn => ?_⟩
  obtain ⟨g, o, e, hs, hg, hc⟩ := h5 hn
  exact ⟨g, o, e, hS g hs hg, Nat.lt_of_lt_of_le hg hz, fun i hi j hj => (World.cell?_of_block (hk g hs hg)).trans (hc i hi j hj)⟩
theorem PrT.mono {w : World} {S S' : Nat → Prop} {v : Value} {l : List PartS} (h : PrT w S v l) (hS : ∀ k, S k → k < w.heap.size → S' k) : PrT w S' v l := h.keep (fun _ _ _ => rfl) (Nat.le_refl _) hS
theorem PrT.below {w w' : World} {S : Nat → Prop} {v : Value} {l : List PartS} (h : PrT w S v l) (hb : Below w.heap.size w w') : PrT w' S v l := h.keep (fun k _ hk => hb.block k hk) hb.size (fun _ h _ => h)
theorem PrT.grown {w w' : World} {S : Nat → Prop} {v : Value} {l : List PartS} {row : Option Nat} (h : PrT w S v l) (hg : w.grownBy w' row) (hr : ∀ k, S k → row ≠ some k) : PrT w' S v l := h.keep (fun k hs hk => hg.block k hk (fun e => hr k hs e.symm)) hg.size (fun _ h _ => h)
theorem PrT.nil (w : World) (S : Nat → Prop) : PrT w S (.slice none 0 0) [] := ⟨none, 0, rfl, Nat.le_refl _, Nat.zero_le _, fun h => absurd rfl h⟩
theorem PrT.form {w : World} {S : Nat → Prop} {v : Value} {l : List PartS} (h : PrT w S v l) : ∃ A c, v = .slice A l.length c := by
  obtain ⟨A, c, h1, -⟩ := h
  exact ⟨A, c, h1⟩
/-- The call's own list of parts. -/
def PrL (w : World) (base : Nat) (v : Value) (l : List PartS) : Prop := w.ownsRow base 55 7 v l.length (prF l)
theorem PrL.nil (w : World) (base : Nat) : PrL w base (.slice none 0 0) [] := World.ownsRow_nil _ _ _ _
theorem PrL.lt {w : World} {base : Nat} {v : Value} {l : List PartS} (h : PrL w base v l) : ∀ k, v.ownBlock = some k → base ≤ k ∧ k < w.heap.size := World.ownsRow.lt h
theorem PrL.tr {w : World} {base : Nat} {v : Value} {l : List PartS} (h : PrL w base v l) : PrT w (fun k => base ≤ k) v l := by
  obtain ⟨hlen, h⟩ := h
  rcases h with ⟨rfl, hn⟩ | ⟨g, cap, cur, rfl, hg, hh, hn, hm, hs, ht⟩
  · exact ⟨none, 0, by rw [hn], by omega, Nat.zero_le _, fun h => absurd (List.eq_nil_of_length_eq_zero hn) h⟩
  · refine ⟨_, cap, rfl, hn, hm, fun _ => ⟨g, 0, rfl, hg, lt_of_block hh, fun i hi j hj => ?_⟩⟩
    have hij : i * 7 + j < l.length * 7 := by omega
    rw [Nat.zero_add, cell_of_row w g (i * 7 + j) cur _ _ hh, ← Array.getElem?_toList]
    have e := prF_get hi hj
    rw [← ht, List.getElem?_take, if_pos hij] at e
    rw [e]
    match j, hj with
    | 0, _ => rfl
    | 1, _ => rfl
    | 2, _ => rfl
    | 3, _ => rfl
    | 4, _ => rfl
    | 5, _ => rfl
    | 6, _ => rfl
theorem PrL.kept {w w' : World} {base : Nat} {v : Value} {l : List PartS} {row : Option Nat} (h : PrL w base v l) (hg : w.grownBy w' row) (hr : ∀ k, row = some k → k < base) : PrL w' base v l :=
  World.ownsRow.kept h hg (by
    cases hv : v.ownBlock with
    | none => exact .inl rfl
    | some k => exact .inr (fun e => by have := hr k (by rw [e]); have := (World.ownsRow.lt h k hv).1; omega))
theorem PrL.below {w w' : World} {base : Nat} {v : Value} {l : List PartS} (h : PrL w base v l) (hb : Below w.heap.size w w') : PrL w' base v l := h.kept (row := none) (grown_of_below hb none) (fun k e => by cases e)
theorem info_pt : (Try.prog.info? 55).map (fun i => (i.zero, i.size, i.bytes)) = some (some (.agg #[.int .u8 0, .int .i64 0, .int .i64 0, .int .i64 0, .int .i64 0, .int .i64 0, .int .i64 0]), 7, 56) := by kernel_rfl
section
variable {W : World} {ops : Array Oper} {o : Oper} {a : Act} {Q : Exit → Act → World → Prop} {K : Act → World → Prop} {E : Prop} {base : Nat} {v : Value} {l : List PartS}
/-- 'out = append(out, x)' behind the block that was made for x. -/
theorem step_append_part (s x : Operand) (hgd : o.guard = none) (ho : o.op = .call { callee := .builtin .append, args := #[s, x], argTypes := #[22, 22] }) (c : Nat) (y : PartS) (cs : Array Value) (hcs : cs.toList = ptC y)
    (hs : a.eval s = v) (H : Nat) (hx : a.eval x = .slice (some ⟨H, 0, none⟩) 1 c) (hH : W.heap.size = H) (hown : PrL W base v l) (hn : l.length + 1 ≤ 1000000) (hbase : base ≤ W.heap.size)
    (h : ∀ v' w', PrL w' base v' (l ++ [y]) → W.grownBy w' v.ownBlock → K (a.put o.dst v') w') :
    if Region.wanted o (yielded ops a.tmps) = true then Oper.wp Try.prog o a (W.alloc (.cells cs 55)) K Q else E := by
  subst hH
  have hw : Region.wanted o (yielded ops a.tmps) = true := by simp [Region.wanted, hgd]
  rw [if_pos hw]
  obtain ⟨i, hi, hz, hs1, hb⟩ := info_parts info_pt
  obtain ⟨v', w', hrun, h2, h3, _, h5⟩ := run_append_own_at (P := Try.prog) (W.alloc (.cells cs 55)) base 22 o.type 55 i _ 7 56 Try.underlying22 hi hz hs1 hb rfl (by omega) v l.length (prF l) (World.ownsRow.alloc hown _) ⟨W.heap.size, 0, none⟩ 1 c (ptC y)
    rfl (fun j u hj => by
      rw [add_none, Nat.zero_add, cell_of_row _ _ _ _ _ _ (heap_alloc_new W _), ← Array.getElem?_toList, hcs]
      exact hj) (fun u hu => by simp [ptC] at hu; rcases hu with rfl | rfl | rfl | rfl | rfl | rfl | rfl <;> rfl) (by unfold maxLen; omega) (by omega) (by rw [World.size_alloc]; omega)
  unfold Oper.wp execOp
  simp only [ho, resolve, invoke, builtin, Sem.run_bind, Sem.run_pure, Result.andThen_ok, List.map_toArray, List.map_cons, List.map_nil, hs, hx, hrun]
  refine h v' w' ?_ (nil_grown (World.grownBy_alloc _ _ _) h3)
  show World.ownsRow _ _ _ _ _ _ _
  rw [prF_app, List.length_append]
  exact h2
end
end Go.Proofs.Ytiadfmhodlbkiaa
