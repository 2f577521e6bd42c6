/-
  A MAP THAT A LITERAL MAKES: string keys, looked up. Conditions: the keys are different.
-/
import Derived.Test.YtiadfmhodlbkiaaStr
import Derived.Maps.OwnSet
namespace Go.Proofs.Ytiadfmhodlbkiaa
open Go.RowKit Go.MapKept
set_option linter.unusedSimpArgs false
set_option linter.unusedVariables false

/-- A map in a block: its entries. -/
def MAt (w : World) (b : Nat) (L : List (List Nat × Value)) : Prop :=
  ∃ es clock, w.heap[b]? = some (.map es clock) ∧ es.toList.map (fun e => (e.key, e.val)) = L.map (fun x => (Value.string (mkS x.1), x.2))
def B8 (s : List Nat) : Prop := ∀ x ∈ s, x < 256
theorem b8_dec {s : List Nat} (h : (s.all fun x => decide (x < 256)) = true) : B8 s := fun x hx => by simpa using List.all_eq_true.1 h x hx
theorem mkS_ne {a b : List Nat} (ha : B8 a) (hb : B8 b) (h : a ≠ b) : mkS a ≠ mkS b := fun e => h (by rw [← strB_mkS ha, ← strB_mkS hb, e])
theorem same_str (a b : ByteArray) : Instr.sameNow .string (.string a) (.string b) = some (decide (a = b)) := by
  obtain ⟨r, h1, h2⟩ := sameNow_of_keys (d := .string) (a := .string a) (b := .string b) trivial trivial
  rw [h1]
  congr 1
  rw [Bool.eq_iff_iff, h2]
  simp
theorem findNow_L {s : List Nat} (hs : B8 s) : ∀ (es : List MapEntry) (L : List (List Nat × Value)) (i : Nat), es.map (fun e => (e.key, e.val)) = L.map (fun x => (Value.string (mkS x.1), x.2)) → (∀ x ∈ L, B8 x.1) →
    ∃ j, Instr.findNow .string (.string (mkS s)) es i = some ((L.find? (fun x => x.1 == s)).map fun x => (j, x.2))
  | [], [], i, _, _ => ⟨0, rfl⟩
  | [], _ :: _, _, h, _ => by cases h
  | _ :: _, [], _, h, _ => by cases h
  | e :: es, x :: L, i, h, h8 => by
    simp only [List.map_cons, List.cons.injEq, Prod.mk.injEq] at h
    obtain ⟨⟨h1, h2⟩, h3⟩ := h
    obtain ⟨j, hj⟩ := findNow_L hs es L (i + 1) h3 (fun y hy => h8 y (List.mem_cons_of_mem _ hy))
    unfold Instr.findNow
    rw [h1, same_str]
    by_cases hx : x.1 = s
    · rw [hx, decide_eq_true rfl]
      refine ⟨i, ?_⟩
      rw [List.find?_cons_of_pos (by simpa using hx)]
      show some (some (i, e.val)) = _
      rw [h2]; rfl
    · rw [decide_eq_false (mkS_ne hs (h8 x (List.mem_cons_self ..)) (Ne.symm hx))]
      refine ⟨j, ?_⟩
      rw [List.find?_cons_of_neg (by simpa using hx)]
      exact hj
section
variable {w w' : World} {b : Nat} {L : List (List Nat × Value)}
theorem MAt.lt (h : MAt w b L) : b < w.heap.size := by
  obtain ⟨es, clock, hb, _⟩ := h
  exact (Array.getElem?_eq_some_iff.1 hb).1
theorem MAt.kept (h : MAt w b L) (hb : w'.heap[b]? = w.heap[b]?) : MAt w' b L := by
  obtain ⟨es, clock, h1, h2⟩ := h
  exact ⟨es, clock, hb.trans h1, h2⟩
theorem MAt.below (h : MAt w b L) (hb : Below w.heap.size w w') : MAt w' b L := h.kept (hb.block b h.lt)
theorem MAt.made (w : World) : MAt (w.alloc (.map #[] 0)) w.heap.size [] := ⟨#[], 0, (heap_alloc w _).1, rfl⟩
end
/-- A map that is being made, and what was there stands. -/
structure MB (W w : World) (b : Nat) (L : List (List Nat × Value)) : Prop where
  be : Below W.heap.size W w
  le : W.heap.size ≤ b
  mp : MAt w b L
  k8 : ∀ x ∈ L, B8 x.1
theorem MB.made (W : World) : MB W (W.alloc (.map #[] 0)) W.heap.size [] := ⟨(Below.refl _ _).alloc (Nat.le_refl _) _, Nat.le_refl _, .made W, fun x hx => by cases hx⟩
theorem MB.cell {W w : World} {b : Nat} {L : List (List Nat × Value)} (h : MB W w b L) {p : Addr} {u : Value} (hc : W.cell? p = some u) : w.cell? p = some u := (h.be.cell (World.block_lt_of_cell? _ _ hc)).trans hc
theorem MB.to {W w : World} {b : Nat} {L L' : List (List Nat × Value)} (h : MB W w b L) (e : L = L') : MAt w b L' := e ▸ h.mp
theorem MB.alloc {W w : World} {b : Nat} {L : List (List Nat × Value)} (h : MB W w b L) (o : Obj) : MB W (w.alloc o) b L :=
  ⟨h.be.alloc h.be.size o, h.le, h.mp.below ((Below.refl _ _).alloc (Nat.le_refl _) o), h.k8⟩
section
variable {P : Program} {w W : World} {ops : Array Oper} {rest : List Oper} {o : Oper} {a : Act} {Q : Exit → Act → World → Prop}
/-- One entry of a literal. -/
theorem wpList_ins (hg : o.guard = none) (m x v : Operand) (t : TypeId) (hop : o.op = .insert t m x v) (k e : TypeId) (ht : P.underlying t = some (.map k e)) (hk : P.underlying k = some .string) (b : Nat) (L : List (List Nat × Value))
    (hm : a.eval m = .map (some b)) (hM : MB W w b L) (S : ByteArray) (hx' : a.eval x = .string S) (val : Value) (hv : a.eval v = val) (hn : (L.all fun x => !(x.1 == strB S)) = true)
    (hK : ∀ w', MB W w' b (L ++ [(strB S, val)]) → wpList P ops Q rest (a.put o.dst undef) w') :
    wpList P ops Q (o :: rest) a w := by
  refine wpList_plain hg fun K' hK' => ?_
  obtain ⟨hbe, hle, ⟨es, clock, hb, he⟩, h8⟩ := hM
  have hs8 : B8 (strB S) := strB_lt S
  have hx : a.eval x = .string (mkS (strB S)) := by rw [mkS_strB]; exact hx'
  generalize strB S = s at *
  obtain ⟨j, hf⟩ := findNow_L hs8 es.toList L 0 he h8
  have hnone : L.find? (fun x => x.1 == s) = none := by
    rw [List.find?_eq_none]
    intro x hx
    have := List.all_eq_true.1 hn x hx
    simpa using this
  rw [hnone] at hf
  have hrun : (Instr.mapUpdate t (.map (some b)) (.string (mkS s)) val).run P w = .ok () { w with heap := w.heap.setIfInBounds b (.map (es.push { key := .string (mkS s), val := val, born := clock }) (clock + 1)) } := by
    unfold Instr.mapUpdate
    simp only [Sem.run_bind, run_underlying ht, Result.andThen, Go.MapKept.run_getObj_map hb, run_checkKey (w := w) hk (k := .string (mkS s)) trivial false 9999, run_findKey (w := w) hk hf]
    exact Go.MapKept.run_setObj_map _ hb
  obtain ⟨q1, q2⟩ := heap_set (o' := .map (es.push { key := .string (mkS s), val := val, born := clock }) (clock + 1)) hb
  have hbw : b < w.heap.size := (Array.getElem?_eq_some_iff.1 hb).1
  unfold Oper.wp
  simp [execOp, hop, hm, hx, hv, hrun, Result.andThen]
  refine hK' _ _ (hK _ ⟨?_, hle, ⟨_, _, q1, ?_⟩, ?_⟩ )
  · exact ⟨hbe.os, hbe.tape, hbe.output, by simpa using hbe.size, fun i hi => (q2 i (by omega)).trans (hbe.block i hi)⟩
  · simp [he]
  · intro y hy
    rcases List.mem_append.1 hy with hy | hy
    · exact h8 y hy
    · rw [List.mem_singleton.1 hy]; exact hs8
/-- What a look-up answers. -/
def lookV (L : List (List Nat × Value)) (s : List Nat) (z : Value) : Value := ((L.find? (fun x => x.1 == s)).map (·.2)).getD z
def hasV (L : List (List Nat × Value)) (s : List Nat) : Bool := (L.find? (fun x => x.1 == s)).isSome
theorem run_look {t k e : TypeId} (ht : P.underlying t = some (.map k e)) (hk : P.underlying k = some .string) {b : Nat} {L : List (List Nat × Value)} (hM : MAt w b L) (h8 : ∀ x ∈ L, B8 x.1) {s : List Nat} (hs : B8 s) {z : Value} (hz : (zeroValue e).run P w = .ok z w) (ok : Bool) :
    (Instr.lookup t (.map (some b)) (.string (mkS s)) ok).run P w = .ok (if ok then .tuple #[lookV L s z, .bool (hasV L s)] else lookV L s z) w := by
  obtain ⟨es, clock, hb, he⟩ := hM
  obtain ⟨j, hf⟩ := findNow_L hs es.toList L 0 he h8
  unfold Instr.lookup lookV hasV
  cases hq : L.find? (fun x => x.1 == s) with
  | none =>
    rw [hq] at hf
    simp only [Sem.run_bind, run_underlying ht, Result.andThen, Go.MapKept.run_getObj_map hb, run_checkKey (w := w) hk (k := .string (mkS s)) trivial es.isEmpty 9999, run_findKey (w := w) hk hf, Option.map_none, Sem.run_pure, hz]
    cases ok <;> rfl
  | some x =>
    rw [hq] at hf
    simp only [Sem.run_bind, run_underlying ht, Result.andThen, Go.MapKept.run_getObj_map hb, run_checkKey (w := w) hk (k := .string (mkS s)) trivial es.isEmpty 9999, run_findKey (w := w) hk hf, Option.map_some, Sem.run_pure]
    cases ok <;> rfl
theorem look_mem {l : List (List Nat × Nat)} {s : List Nat} {n : Nat} (h : (l.find? (fun x => x.1 == s)).map (·.2) = some n) : (s, n) ∈ l := by
  cases hq : l.find? (fun x => x.1 == s) with
  | none => rw [hq] at h; cases h
  | some x =>
    rw [hq] at h
    have h1 := List.mem_of_find?_eq_some hq
    have h2 : x.1 = s := by simpa using List.find?_some hq
    have h3 : x.2 = n := by simpa using h
    rw [← h2, ← h3]; exact h1
/-- 'v, ok := m[k]' where the elements are whole numbers. -/
def numV (K : IntKind) (l : List (List Nat × Nat)) : List (List Nat × Value) := l.map fun x => (x.1, .int K x.2)
def lookN (l : List (List Nat × Nat)) (s : List Nat) : Option Nat := (l.find? (fun x => x.1 == s)).map (·.2)
theorem look_num (K : IntKind) (l : List (List Nat × Nat)) (s : List Nat) : lookV (numV K l) s (.int K 0) = .int K ((lookN l s).getD 0 : Nat) ∧ hasV (numV K l) s = (lookN l s).isSome := by
  unfold lookV hasV numV lookN
  rw [List.find?_map, show ((fun x : List Nat × Value => x.1 == s) ∘ fun x : List Nat × Nat => (x.1, Value.int K x.2)) = (fun x => x.1 == s) from rfl]
  cases l.find? (fun x => x.1 == s) <;> exact ⟨rfl, rfl⟩
theorem wpList_lookN (hg : o.guard = none) (m x : Operand) (t : TypeId) (hop : o.op = .lookup t m x true) (k e : TypeId) (K : IntKind) (ht : P.underlying t = some (.map k e)) (hk : P.underlying k = some .string) (hz : ∀ w, (zeroValue e).run P w = .ok (.int K 0) w)
    (b : Nat) (l : List (List Nat × Nat)) (hm : a.eval m = .map (some b)) (hM : MAt w b (numV K l)) (h8 : (l.all fun x => x.1.all fun y => decide (y < 256)) = true) (s : List Nat) (hs : B8 s) (hx : a.eval x = .string (mkS s))
    (hK : wpList P ops Q rest (a.put o.dst (.tuple #[.int K ((lookN l s).getD 0 : Nat), .bool (lookN l s).isSome])) w) : wpList P ops Q (o :: rest) a w := by
  refine wpList_plain hg fun K' hK' => ?_
  have h8' : ∀ x ∈ numV K l, B8 x.1 := fun x hx => by
    obtain ⟨y, hy, rfl⟩ := List.mem_map.1 hx
    exact b8_dec (List.all_eq_true.1 h8 y hy)
  have hrun := run_look ht hk hM h8' hs (hz w) true
  rw [(look_num K l s).1, (look_num K l s).2] at hrun
  unfold Oper.wp
  simp [execOp, hop, hm, hx, hrun, Result.andThen]
  exact hK' _ _ hK
end
end Go.Proofs.Ytiadfmhodlbkiaa
