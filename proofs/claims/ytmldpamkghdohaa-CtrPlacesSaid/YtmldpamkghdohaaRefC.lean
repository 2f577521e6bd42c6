/-
  A SLICE OF WORDS THAT GROWS: append of one slice to a slice of slices of bytes. Conditions: the slice is the call's own, or nil.
-/
import Derived.Test.YtmldpamkghdohaaRefA
namespace Go.Proofs.Ytmldpamkghdohaa
open Go.RowKit
set_option linter.unusedSimpArgs false
set_option linter.unusedVariables false

/-- One word: a slice of four bytes that lies elsewhere than in the block k. -/
def Word (w : World) (own : Option Nat) (u : Value) (f : Nat → Nat) : Prop := ∃ gi oi ci, u = .slice (some ⟨gi, oi, none⟩) 4 ci ∧ gi < w.heap.size ∧ some gi ≠ own ∧ ∀ k, k < 4 → w.cell? ⟨gi, oi + k, none⟩ = some (.int .u8 (f k : Nat))
/-- v is the call's own slice of the words of l's bytes. -/
def Wo (w : World) (base : Nat) (v : Value) (l : List Nat) (n : Nat) : Prop := ∃ L : List Value, w.ownsRow base 26 1 v n L ∧ l.length = 4 * n ∧ ∀ i, i < n → ∃ u, L[i]? = some u ∧ Word w v.ownBlock u (fun k => nth l (4 * i + k))
theorem Word.kept {w w' : World} {own own' : Option Nat} {u : Value} {f : Nat → Nat} (h : Word w own u f) (hg : w.grownBy w' own) (ho : own' = own ∨ own' = some w.heap.size) : Word w' own' u f := by
  obtain ⟨gi, oi, ci, rfl, h1, h2, h3⟩ := h
  refine ⟨gi, oi, ci, rfl, Nat.lt_of_lt_of_le h1 hg.size, ?_, fun k hk => ?_⟩
  · rcases ho with rfl | rfl
    · exact h2
    · intro e; injection e with e; omega
  · exact (World.cell?_of_block (hg.block gi h1 h2)).trans (h3 k hk)
theorem Wo.nil (w : World) (base : Nat) : Wo w base (.slice none 0 0) [] 0 := ⟨[], World.ownsRow_nil _ _ _ _, rfl, fun i hi => by omega⟩
theorem Wo.kept {w w' : World} {base : Nat} {v : Value} {l : List Nat} {n : Nat} {row : Option Nat} (h : Wo w base v l n) (hb : Below w.heap.size w w') : Wo w' base v l n := by
  obtain ⟨L, h1, h2, h3⟩ := h
  refine ⟨L, h1.kept (row := none) ⟨hb.os, hb.tape, hb.output, hb.size, fun k hk _ => hb.block k hk⟩ ?_, h2, fun i hi => ?_⟩
  · cases hv : v.ownBlock with
    | none => exact .inl rfl
    | some k => exact .inr (by simp)
  · obtain ⟨u, hu, gi, oi, ci, rfl, k1, k2, k3⟩ := h3 i hi
    exact ⟨_, hu, gi, oi, ci, rfl, Nat.lt_of_lt_of_le k1 hb.size, k2, fun k hk => (hb.cell k1).trans (k3 k hk)⟩
theorem info_sl : (Try.prog.info? 26).map (fun i => (i.zero, i.size, i.bytes)) = some (some (.slice none 0 0), 1, 24) := by kernel_rfl

section
variable {W : World} {ops : Array Oper} {rest : List Oper} {o : Oper} {a : Act} {Q : Exit → Act → World → Prop} {base n : Nat} {v : Value} {l : List Nat}
set_option maxRecDepth 100000 in
/-- 'out = append(out, u)' behind the block that was made for u. -/
theorem append_word (s x : Operand) (hgd : o.guard = none) (ho : o.op = .call { callee := .builtin .append, args := #[s, x], argTypes := #[85, 85] }) (c : Nat) (u : Value) (m : List Nat)
    (hs : a.eval s = v) (hx : a.eval x = .slice (some ⟨W.heap.size, 0, none⟩) 1 c) (hown : Wo W base v l n) (hm : m.length = 4) (hu : Word W none u (fun k => nth m k)) (hv : ∀ gi oi ci, u = .slice (some ⟨gi, oi, none⟩) 4 ci → v.ownBlock ≠ some gi)
    (hn : n < 1000000) (hbase : base ≤ W.heap.size)
    (h : ∀ v' w', Wo w' base v' (l ++ m) (n + 1) → W.grownBy w' v.ownBlock → (v'.ownBlock = v.ownBlock ∨ v'.ownBlock = some (W.heap.size + 1)) → wpList Try.prog ops Q rest (a.put o.dst v') w') :
    wpList Try.prog ops Q (o :: rest) a (W.alloc (.cells #[u] 26)) := by
  refine wpList_plain hgd fun _ hK => ?_
  obtain ⟨i, hi, hz, hs1, hb⟩ := info_parts info_sl
  obtain ⟨L, h1, h2, h3⟩ := hown
  obtain ⟨gi, oi, ci, rfl, k1, -, k3⟩ := hu
  have hne := hv gi oi ci rfl
  have h1' := h1.alloc (.cells #[.slice (some ⟨gi, oi, none⟩) 4 ci] 26)
  obtain ⟨v', w', hrun, r1, r2, _, r4⟩ := run_append_own_at (P := Try.prog) (W.alloc (.cells #[.slice (some ⟨gi, oi, none⟩) 4 ci] 26)) base 85 o.type 26 i (.slice none 0 0) 1 24 Try.underlying85 hi hz hs1 hb rfl (by omega)
    v n L h1' ⟨W.heap.size, 0, none⟩ 1 c [.slice (some ⟨gi, oi, none⟩) 4 ci] rfl
    (fun j u hu => by
      match j, hu with
      | 0, hu => injection hu with hu; subst hu; rw [add_none]; exact new_cell _ _ _)
    (fun u hu => by simp at hu; subst hu; rfl) (by unfold maxLen; omega) (by omega) (by rw [World.size_alloc]; omega)
  have hg : W.grownBy w' v.ownBlock := nil_grown (World.grownBy_alloc _ _ _) r2
  rw [World.size_alloc] at r4
  unfold Oper.wp execOp
  simp only [ho, resolve, invoke, builtin, Sem.run_bind, Sem.run_pure, Result.andThen_ok, List.map_toArray, List.map_cons, List.map_nil, hs, hx, hrun]
  refine hK _ _ (h v' w' ⟨L ++ [.slice (some ⟨gi, oi, none⟩) 4 ci], r1, by simp [h2, hm]; omega, fun j hj => ?_⟩ hg r4)
  have hL : L.length = n := by have := h1.1; omega
  have lt1 : W.heap.size + 1 ≤ w'.heap.size := by have := r2.size; rwa [World.size_alloc] at this
  rcases Nat.lt_or_ge j n with hj' | hj'
  · obtain ⟨u, hu, g1, o1, c1, rfl, q1, q2, q3⟩ := h3 j hj'
    refine ⟨_, by rw [List.getElem?_append_left (by omega)]; exact hu, g1, o1, c1, rfl, by omega, ?_, fun k hk => ?_⟩
    · rcases r4 with e | e
      · rw [e]; exact q2
      · rw [e]; intro e; injection e with e; omega
    · rw [(World.cell?_of_block (hg.block g1 q1 q2)).trans (q3 k hk)]
      simp [nth, List.getElem?_append, h2, show 4 * j + k < 4 * n by omega]
  · obtain rfl : j = n := by omega
    refine ⟨_, by rw [List.getElem?_append_right (by omega), hL, Nat.sub_self]; rfl, gi, oi, ci, rfl, by omega, ?_, fun k hk => ?_⟩
    · rcases r4 with e | e
      · rw [e]; exact fun e => hne e.symm
      · rw [e]; intro e; injection e with e; omega
    · rw [(World.cell?_of_block (hg.block gi k1 (fun e => hne e.symm))).trans (k3 k hk)]
      simp [nth, List.getElem?_append, h2, show ¬ (4 * j + k < 4 * j) by omega]
end
end Go.Proofs.Ytmldpamkghdohaa
