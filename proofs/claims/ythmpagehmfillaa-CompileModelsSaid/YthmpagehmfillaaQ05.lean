/-
  STATEMENTS IN MEMORY: a tree of them behind a slice; a list of the call's own that grows. Conditions: the blocks that hold a tree are told by a predicate.
-/
import Derived.Test.YthmpagehmfillaaQ04
import Derived.Test.YthmpagehmfillaaQ03
import Derived.Maps.AppendAt
namespace Go.Proofs.Ythmpagehmfillaa
open Go.RowKit
set_option linter.unusedSimpArgs false
set_option linter.unusedVariables false

/-- The cells of one statement. -/
def stC (k : Nat) (i : InsS) (c : ConS) (vb ve : Value) (ln : Int) : List Value :=
  [.int .u8 k, .int .u8 i.o, .int .i64 i.d, .int .i64 i.s, .int .i64 i.n, .bool c.nt, .int .u8 c.i.o, .int .i64 c.i.d, .int .i64 c.i.s, .int .i64 c.i.n, vb, ve, .int .i64 ln]
theorem stC_len (k : Nat) (i : InsS) (c : ConS) (vb ve : Value) (ln : Int) : (stC k i c vb ve ln).length = 13 := rfl
/-- A slice reads as rows of statements, in blocks that S holds of. -/
def Sl (w : World) (S : Nat → Prop) (v : Value) (n : Nat) (V : List Value) : Prop :=
  V.length = n * 13 ∧ ∃ A c, v = .slice A n c ∧ n ≤ c ∧ c ≤ maxLen ∧ (n ≠ 0 → ∃ g o, A = some ⟨g, o, none⟩ ∧ S g ∧ g < w.heap.size ∧ ∀ j (hj : j < V.length), w.cell? ⟨g, o + j, none⟩ = some V[j])
/-- Values are the cells of statements. -/
def El (w : World) (S : Nat → Prop) : Sts → List Value → Prop
  | .nil, V => V = []
  | .cons k i c b e ln r, V => ∃ vb ve V', V = stC k i c vb ve ln ++ V' ∧ (∃ Vb, Sl w S vb b.len Vb ∧ El w S b Vb) ∧ (∃ Ve, Sl w S ve e.len Ve ∧ El w S e Ve) ∧ El w S r V'
/-- A slice reads as statements. -/
def Tr (w : World) (S : Nat → Prop) (v : Value) (T : Sts) : Prop := ∃ V, Sl w S v T.len V ∧ El w S T V
section
variable {w w' : World} {S S' : Nat → Prop}
theorem Sl.keep {v : Value} {n : Nat} {V : List Value} (h : Sl w S v n V) (hk : ∀ k, S k → k < w.heap.size → w'.heap[k]? = w.heap[k]?) (hz : w.heap.size ≤ w'.heap.size) (hS : ∀ k, S k → k < w.heap.size → S' k) : Sl w' S' v n V := by
  obtain ⟨h1, A, c, h2, h3, h4, h5⟩ := h
  refine ⟨h1, A, c, h2, h3, h4, fun hn => ?_⟩
  obtain ⟨g, o, e, hs, hg, hc⟩ := h5 hn
  exact ⟨g, o, e, hS g hs hg, Nat.lt_of_lt_of_le hg hz, fun j hj => (World.cell?_of_block (hk g hs hg)).trans (hc j hj)⟩
theorem El.keep (hk : ∀ k, S k → k < w.heap.size → w'.heap[k]? = w.heap[k]?) (hz : w.heap.size ≤ w'.heap.size) (hS : ∀ k, S k → k < w.heap.size → S' k) : ∀ {T : Sts} {V : List Value}, El w S T V → El w' S' T V
  | .nil, _, h => h
  | .cons k i c b e ln r, V, h => by
    obtain ⟨vb, ve, V', h1, ⟨Vb, h2, h3⟩, ⟨Ve, h4, h5⟩, h6⟩ := h
    exact ⟨vb, ve, V', h1, ⟨Vb, h2.keep hk hz hS, El.keep hk hz hS h3⟩, ⟨Ve, h4.keep hk hz hS, El.keep hk hz hS h5⟩, El.keep hk hz hS h6⟩
theorem Tr.keep {v : Value} {T : Sts} (h : Tr w S v T) (hk : ∀ k, S k → k < w.heap.size → w'.heap[k]? = w.heap[k]?) (hz : w.heap.size ≤ w'.heap.size) (hS : ∀ k, S k → k < w.heap.size → S' k) : Tr w' S' v T := by
  obtain ⟨V, h1, h2⟩ := h
  exact ⟨V, h1.keep hk hz hS, h2.keep hk hz hS⟩
theorem Tr.mono {v : Value} {T : Sts} (h : Tr w S v T) (hS : ∀ k, S k → k < w.heap.size → S' k) : Tr w S' v T := h.keep (fun _ _ _ => rfl) (Nat.le_refl _) hS
theorem Tr.below {v : Value} {T : Sts} (h : Tr w S v T) (hb : Below w.heap.size w w') : Tr w' S v T := h.keep (fun k _ hk => hb.block k hk) hb.size (fun _ h _ => h)
theorem Tr.grown {v : Value} {T : Sts} {row : Option Nat} (h : Tr w S v T) (hg : w.grownBy w' row) (hr : ∀ k, S k → row ≠ some k) : Tr w' S v T := h.keep (fun k hs hk => hg.block k hk (fun e => hr k hs e.symm)) hg.size (fun _ h _ => h)
theorem Tr.nil (w : World) (S : Nat → Prop) : Tr w S (.slice none 0 0) .nil := ⟨[], ⟨rfl, none, 0, rfl, Nat.le_refl _, Nat.zero_le _, fun h => absurd rfl h⟩, rfl⟩
theorem El.len : ∀ {T : Sts} {V : List Value}, El w S T V → V.length = T.len * 13
  | .nil, _, h => by rw [show _ = [] from h]; rfl
  | .cons k i c b e ln r, V, h => by
    obtain ⟨vb, ve, V', h1, -, -, h6⟩ := h
    rw [h1, List.length_append, El.len h6, stC_len]
    show _ = (r.len + 1) * 13
    omega
theorem El.push {x : StS} {vb ve : Value} : ∀ {T : Sts} {V : List Value}, El w S T V → Tr w S vb x.b → Tr w S ve x.e → El w S (T.push x) (V ++ stC x.k x.i x.c vb ve x.ln)
  | .nil, V, h, hb, he => by
    rw [show V = [] from h]
    exact ⟨vb, ve, [], by simp, hb, he, rfl⟩
  | .cons k i c b e ln r, V, h, hb, he => by
    obtain ⟨ub, ue, V', h1, h2, h4, h6⟩ := h
    exact ⟨ub, ue, V' ++ stC x.k x.i x.c vb ve x.ln, by rw [h1, List.append_assoc], h2, h4, El.push h6 hb he⟩
end
/-- Away from a list's own block. -/
def Off (base : Nat) (v : Value) : Nat → Prop := fun k => base ≤ k ∧ v.ownBlock ≠ some k
/-- The call's own list of statements. -/
def Lst (w : World) (base : Nat) (v : Value) (T : Sts) : Prop := ∃ V, w.ownsRow base 60 13 v T.len V ∧ El w (Off base v) T V
theorem Lst.nil (w : World) (base : Nat) : Lst w base (.slice none 0 0) .nil := ⟨[], World.ownsRow_nil _ _ _ _, rfl⟩
theorem Lst.lt {w : World} {base : Nat} {v : Value} {T : Sts} (h : Lst w base v T) : ∀ k, v.ownBlock = some k → base ≤ k ∧ k < w.heap.size := by
  obtain ⟨V, h1, h3⟩ := h
  exact h1.lt
theorem Lst.tr {w : World} {base : Nat} {v : Value} {T : Sts} (h : Lst w base v T) : Tr w (fun k => base ≤ k) v T := by
  obtain ⟨V, h0, h3⟩ := h
  have h3' := h3.keep (w' := w) (S' := fun k => base ≤ k) (fun _ _ _ => rfl) (Nat.le_refl _) (fun k hk _ => hk.1)
  refine ⟨V, ?_, h3'⟩
  obtain ⟨hlen, h⟩ := h0
  rcases h with ⟨rfl, hn⟩ | ⟨g, cap, cur, rfl, hg, hh, hn, hm, hs, ht⟩
  · exact ⟨hlen, none, 0, by rw [hn], by omega, Nat.zero_le _, fun h => absurd hn h⟩
  · refine ⟨hlen, _, cap, rfl, hn, hm, fun _ => ⟨g, 0, rfl, hg, lt_of_block hh, fun j hj => ?_⟩⟩
    have e : cur.toList[j]? = some V[j] := by rw [← List.getElem?_eq_getElem hj, ← ht, List.getElem?_take, if_pos (by omega)]
    rw [Nat.zero_add, cell_of_row w g j cur _ _ hh, ← Array.getElem?_toList, e]
theorem Lst.kept {w w' : World} {base : Nat} {v : Value} {T : Sts} {row : Option Nat} (h : Lst w base v T) (hg : w.grownBy w' row) (hr : ∀ k, row = some k → k < base) : Lst w' base v T := by
  obtain ⟨V, h1, h3⟩ := h
  refine ⟨V, h1.kept hg ?_, h3.keep (fun k hk hl => hg.block k hl (fun e => ?_)) hg.size (fun _ h _ => h)⟩
  · cases hv : v.ownBlock with
    | none => exact .inl rfl
    | some k => exact .inr (fun e => by have := hr k (by rw [e]); have := (h1.lt k hv).1; omega)
  · have := hr k e.symm; have := hk.1; omega
theorem Lst.below {w w' : World} {base : Nat} {v : Value} {T : Sts} (h : Lst w base v T) (hb : Below w.heap.size w w') : Lst w' base v T := h.kept (row := none) (grown_of_below hb none) (fun k e => by cases e)
theorem info_st : (Try.prog.info? 60).map (fun i => (i.zero, i.size, i.bytes)) = some (some (.agg #[.int .u8 0, .int .u8 0, .int .i64 0, .int .i64 0, .int .i64 0, .bool false, .int .u8 0, .int .i64 0, .int .i64 0, .int .i64 0, .slice none 0 0, .slice none 0 0, .int .i64 0]), 13, 136) := by kernel_rfl
section
variable {W : World} {ops : Array Oper} {rest : List Oper} {o : Oper} {a : Act} {Q : Exit → Act → World → Prop} {base : Nat} {v : Value} {T : Sts}
set_option maxRecDepth 100000 in
/-- 'out = append(out, x)' behind the block that was made for x. -/
theorem append_stmt (s x : Operand) (hgd : o.guard = none) (ho : o.op = .call { callee := .builtin .append, args := #[s, x], argTypes := #[36, 36] }) (c : Nat) (y : StS) (vb ve : Value) (cs : Array Value) (hcs : cs.toList = stC y.k y.i y.c vb ve y.ln)
    (hs : a.eval s = v) (H : Nat) (hx : a.eval x = .slice (some ⟨H, 0, none⟩) 1 c) (hH : W.heap.size = H) (hown : Lst W base v T) (hb : Tr W (Off base v) vb y.b) (he : Tr W (Off base v) ve y.e)
    (h1c : vb.oneCell' = true ∧ ve.oneCell' = true)
    (hn : T.len + 1 ≤ 1000000) (hbase : base ≤ W.heap.size)
    (h : ∀ v' w', Lst w' base v' (T.push y) → W.grownBy w' v.ownBlock → wpList Try.prog ops Q rest (a.put o.dst v') w') :
    wpList Try.prog ops Q (o :: rest) a (W.alloc (.cells cs 60)) := by
  subst hH
  refine wpList_plain hgd fun _ hK => ?_
  obtain ⟨i, hi, hz, hs1, hb1⟩ := info_parts info_st
  obtain ⟨V, h1, h3⟩ := hown
  obtain ⟨v', w', hrun, h2, h3', _, h5⟩ := run_append_own_at (P := Try.prog) (W.alloc (.cells cs 60)) base 36 o.type 60 i _ 13 136 Try.underlying36 hi hz hs1 hb1 rfl (by omega) v T.len V (h1.alloc _) ⟨W.heap.size, 0, none⟩ 1 c (stC y.k y.i y.c vb ve y.ln)
    rfl (fun j u hj => by
      rw [add_none, Nat.zero_add, cell_of_row _ _ _ _ _ _ (heap_alloc_new W _), ← Array.getElem?_toList, hcs]
      exact hj) (fun u hu => by simp [stC] at hu; rcases hu with rfl | rfl | rfl | rfl | rfl | rfl | rfl | rfl | rfl | rfl | rfl | rfl | rfl <;> first | rfl | exact h1c.1 | exact h1c.2) (by unfold maxLen; omega) (by omega) (by rw [World.size_alloc]; omega)
  unfold Oper.wp execOp
  simp only [ho, resolve, invoke, builtin, Sem.run_bind, Sem.run_pure, Result.andThen_ok, List.map_toArray, List.map_cons, List.map_nil, hs, hx, hrun]
  have hg : W.grownBy w' v.ownBlock := nil_grown (World.grownBy_alloc _ _ _) h3'
  rw [World.size_alloc] at h5
  refine hK _ _ (h v' w' ⟨V ++ stC y.k y.i y.c vb ve y.ln, ?_, ?_⟩ hg)
  · rw [Sts.push_len]; exact h2
  · refine (h3.push hb he).keep (fun k hk hl => hg.block k hl (fun e => hk.2 e.symm)) hg.size (fun k hk hl => ⟨hk.1, ?_⟩)
    rcases h5 with h5 | h5
    · rw [h5]; exact hk.2
    · rw [h5]; intro e; injection e with e; omega
end
theorem Sl.one {w : World} {S : Nat → Prop} {v : Value} {n : Nat} {V : List Value} (h : Sl w S v n V) : v.oneCell' = true := by
  obtain ⟨-, A, c, rfl, -⟩ := h
  rfl
theorem Tr.one {w : World} {S : Nat → Prop} {v : Value} {T : Sts} (h : Tr w S v T) : v.oneCell' = true := by
  obtain ⟨V, h1, -⟩ := h
  exact h1.one
end Go.Proofs.Ythmpagehmfillaa
