/-
  A STATEMENT'S ROW IN MEMORY: its cells, parts of it written. Conditions: none.
-/
import Derived.Test.YthmpagehmfillaaQ05
import Derived.Test.YthmpagehmfillaaQ06
import Derived.Test.YthmpagehmfillaaQ12
namespace Go.Proofs.Ythmpagehmfillaa
open Go.RowKit
set_option linter.unusedSimpArgs false
set_option linter.unusedVariables false
def stF (k : Nat) (i : InsS) (c : ConS) (vb ve : Value) (ln : Int) : Nat → Value
  | 0 => .int .u8 k
  | 1 => .int .u8 i.o
  | 2 => .int .i64 i.d
  | 3 => .int .i64 i.s
  | 4 => .int .i64 i.n
  | 5 => .bool c.nt
  | 6 => .int .u8 c.i.o
  | 7 => .int .i64 c.i.d
  | 8 => .int .i64 c.i.s
  | 9 => .int .i64 c.i.n
  | 10 => vb
  | 11 => ve
  | _ => .int .i64 ln
def stA (k : Nat) (i : InsS) (c : ConS) (vb ve : Value) (ln : Int) : Array Value := #[.int .u8 k, .int .u8 i.o, .int .i64 i.d, .int .i64 i.s, .int .i64 i.n, .bool c.nt, .int .u8 c.i.o, .int .i64 c.i.d, .int .i64 c.i.s, .int .i64 c.i.n, vb, ve, .int .i64 ln]
theorem stA_list (k : Nat) (i : InsS) (c : ConS) (vb ve : Value) (ln : Int) : (stA k i c vb ve ln).toList = stC k i c vb ve ln := rfl
section
variable {w : World} {g : Nat} {t : TypeId} {k : Nat} {i : InsS} {c : ConS} {vb ve : Value} {ln : Int} {f : Nat → Value}
theorem st_row (h : w.heap[g]? = some (.cells (stA k i c vb ve ln) t (0, 0))) : w.rowIs g t 13 (stF k i c vb ve ln) := ⟨_, h, rfl, fun i hi => by
  match i, hi with
  | 0, _ => rfl
  | 1, _ => rfl
  | 2, _ => rfl
  | 3, _ => rfl
  | 4, _ => rfl
  | 5, _ => rfl
  | 6, _ => rfl
  | 7, _ => rfl
  | 8, _ => rfl
  | 9, _ => rfl
  | 10, _ => rfl
  | 11, _ => rfl
  | 12, _ => rfl⟩
theorem st_heap (h : w.rowIs g t 13 (stF k i c vb ve ln)) : w.heap[g]? = some (.cells (stA k i c vb ve ln) t (0, 0)) := by
  obtain ⟨cs, h1, h2, h3⟩ := h
  rw [h1]
  have : cs = stA k i c vb ve ln := by
    apply Array.ext (by rw [h2]; rfl)
    intro j hi1 hi2
    have h4 := h3 j (by omega)
    have e : (stA k i c vb ve ln)[j]? = some (stF k i c vb ve ln j) := by
      rw [h2] at hi1
      match j, hi1 with
      | 0, _ => rfl
      | 1, _ => rfl
      | 2, _ => rfl
      | 3, _ => rfl
      | 4, _ => rfl
      | 5, _ => rfl
      | 6, _ => rfl
      | 7, _ => rfl
      | 8, _ => rfl
      | 9, _ => rfl
      | 10, _ => rfl
      | 11, _ => rfl
      | 12, _ => rfl
    rw [← e, Array.getElem?_eq_getElem hi1, Array.getElem?_eq_getElem hi2] at h4
    exact Option.some.inj h4
  rw [this]
theorem st_all (k : Nat) (i : InsS) (c : ConS) (vb ve : Value) (ln : Int) (h : w.rowIs g t 13 f) : (((((((((((((w.setCell ⟨g, 0, none⟩ (.int .u8 k)).setCell ⟨g, 1, none⟩ (.int .u8 i.o)).setCell ⟨g, 2, none⟩ (.int .i64 i.d)).setCell ⟨g, 3, none⟩ (.int .i64 i.s)).setCell ⟨g, 4, none⟩ (.int .i64 i.n)).setCell ⟨g, 5, none⟩ (.bool c.nt)).setCell ⟨g, 6, none⟩ (.int .u8 c.i.o)).setCell ⟨g, 7, none⟩ (.int .i64 c.i.d)).setCell ⟨g, 8, none⟩ (.int .i64 c.i.s)).setCell ⟨g, 9, none⟩ (.int .i64 c.i.n)).setCell ⟨g, 10, none⟩ vb).setCell ⟨g, 11, none⟩ ve).setCell ⟨g, 12, none⟩ (.int .i64 ln)).rowIs g t 13 (stF k i c vb ve ln) :=
  (((((((((((((h.set 0 _).set 1 _).set 2 _).set 3 _).set 4 _).set 5 _).set 6 _).set 7 _).set 8 _).set 9 _).set 10 _).set 11 _).set 12 _).congr fun i hi => by
    match i, hi with
    | 0, _ => rfl
    | 1, _ => rfl
    | 2, _ => rfl
    | 3, _ => rfl
    | 4, _ => rfl
    | 5, _ => rfl
    | 6, _ => rfl
    | 7, _ => rfl
    | 8, _ => rfl
    | 9, _ => rfl
    | 10, _ => rfl
    | 11, _ => rfl
    | 12, _ => rfl
theorem st_setK (k' : Nat) (h : w.rowIs g t 13 (stF k i c vb ve ln)) : (w.setCell ⟨g, 0, none⟩ (.int .u8 k')).rowIs g t 13 (stF k' i c vb ve ln) :=
  (h.set 0 _).congr fun i hi => by
    match i, hi with
    | 0, _ => rfl
    | 1, _ => rfl
    | 2, _ => rfl
    | 3, _ => rfl
    | 4, _ => rfl
    | 5, _ => rfl
    | 6, _ => rfl
    | 7, _ => rfl
    | 8, _ => rfl
    | 9, _ => rfl
    | 10, _ => rfl
    | 11, _ => rfl
    | 12, _ => rfl
theorem st_setO (o : Nat) (h : w.rowIs g t 13 (stF k i c vb ve ln)) : (w.setCell ⟨g, 1, none⟩ (.int .u8 o)).rowIs g t 13 (stF k ⟨o, i.d, i.s, i.n⟩ c vb ve ln) :=
  (h.set 1 _).congr fun i hi => by
    match i, hi with
    | 0, _ => rfl
    | 1, _ => rfl
    | 2, _ => rfl
    | 3, _ => rfl
    | 4, _ => rfl
    | 5, _ => rfl
    | 6, _ => rfl
    | 7, _ => rfl
    | 8, _ => rfl
    | 9, _ => rfl
    | 10, _ => rfl
    | 11, _ => rfl
    | 12, _ => rfl
theorem st_setI (j : InsS) (h : w.rowIs g t 13 (stF k i c vb ve ln)) : ((((w.setCell ⟨g, 1, none⟩ (.int .u8 j.o)).setCell ⟨g, 2, none⟩ (.int .i64 j.d)).setCell ⟨g, 3, none⟩ (.int .i64 j.s)).setCell ⟨g, 4, none⟩ (.int .i64 j.n)).rowIs g t 13 (stF k j c vb ve ln) :=
  ((((h.set 1 _).set 2 _).set 3 _).set 4 _).congr fun i hi => by
    match i, hi with
    | 0, _ => rfl
    | 1, _ => rfl
    | 2, _ => rfl
    | 3, _ => rfl
    | 4, _ => rfl
    | 5, _ => rfl
    | 6, _ => rfl
    | 7, _ => rfl
    | 8, _ => rfl
    | 9, _ => rfl
    | 10, _ => rfl
    | 11, _ => rfl
    | 12, _ => rfl
theorem st_setC (d : ConS) (h : w.rowIs g t 13 (stF k i c vb ve ln)) : (((((w.setCell ⟨g, 5, none⟩ (.bool d.nt)).setCell ⟨g, 6, none⟩ (.int .u8 d.i.o)).setCell ⟨g, 7, none⟩ (.int .i64 d.i.d)).setCell ⟨g, 8, none⟩ (.int .i64 d.i.s)).setCell ⟨g, 9, none⟩ (.int .i64 d.i.n)).rowIs g t 13 (stF k i d vb ve ln) :=
  (((((h.set 5 _).set 6 _).set 7 _).set 8 _).set 9 _).congr fun i hi => by
    match i, hi with
    | 0, _ => rfl
    | 1, _ => rfl
    | 2, _ => rfl
    | 3, _ => rfl
    | 4, _ => rfl
    | 5, _ => rfl
    | 6, _ => rfl
    | 7, _ => rfl
    | 8, _ => rfl
    | 9, _ => rfl
    | 10, _ => rfl
    | 11, _ => rfl
    | 12, _ => rfl
theorem st_setB (u : Value) (h : w.rowIs g t 13 (stF k i c vb ve ln)) : (w.setCell ⟨g, 10, none⟩ u).rowIs g t 13 (stF k i c u ve ln) :=
  (h.set 10 _).congr fun i hi => by
    match i, hi with
    | 0, _ => rfl
    | 1, _ => rfl
    | 2, _ => rfl
    | 3, _ => rfl
    | 4, _ => rfl
    | 5, _ => rfl
    | 6, _ => rfl
    | 7, _ => rfl
    | 8, _ => rfl
    | 9, _ => rfl
    | 10, _ => rfl
    | 11, _ => rfl
    | 12, _ => rfl
theorem st_setE (u : Value) (h : w.rowIs g t 13 (stF k i c vb ve ln)) : (w.setCell ⟨g, 11, none⟩ u).rowIs g t 13 (stF k i c vb u ln) :=
  (h.set 11 _).congr fun i hi => by
    match i, hi with
    | 0, _ => rfl
    | 1, _ => rfl
    | 2, _ => rfl
    | 3, _ => rfl
    | 4, _ => rfl
    | 5, _ => rfl
    | 6, _ => rfl
    | 7, _ => rfl
    | 8, _ => rfl
    | 9, _ => rfl
    | 10, _ => rfl
    | 11, _ => rfl
    | 12, _ => rfl
end
theorem st_size : (Try.prog.info? 60).map (·.size) = some 13 := by kernel_rfl
theorem st_results {fn : Func} {p : Tmp} (h : fn.results = #[.cell p 60]) (tmps : Array Value) (w : World) (g : Nat) {k : Nat} {i : InsS} {c : ConS} {vb ve : Value} {ln : Int} (hp : tmps.getD p undef = .pointer (some ⟨g, 0, none⟩)) (hr : w.rowIs g 60 13 (stF k i c vb ve ln)) : (results fn tmps).run Try.prog w = .ok (.agg (stA k i c vb ve ln)) w :=
  results_cell_row h tmps w g _ (stA k i c vb ve ln) (0, 0) _ hp (st_heap hr) Try.underlying60 rfl st_size
/-- A look-up without 'ok'. -/
theorem wpList_lookV {P : Program} {w : World} {ops : Array Oper} {rest : List Oper} {o : Oper} {a : Act} {Q : Exit → Act → World → Prop} (hg : Region.wanted o (yielded ops a.tmps) = true) (m x : Operand) (t : TypeId) (hop : o.op = .lookup t m x false) (k e : TypeId) (K : IntKind) (ht : P.underlying t = some (.map k e)) (hk : P.underlying k = some .string) (hz : ∀ w, (zeroValue e).run P w = .ok (.int K 0) w)
    (b : Nat) (l : List (List Nat × Nat)) (hm : a.eval m = .map (some b)) (hM : MAt w b (numV K l)) (h8 : (l.all fun x => x.1.all fun y => decide (y < 256)) = true) (s : List Nat) (hs : B8 s) (hx : a.eval x = .string (mkS s))
    (hK : wpList P ops Q rest (a.put o.dst (.int K ((lookN l s).getD 0 : Nat))) w) : wpList P ops Q (o :: rest) a w := by
  refine wpList_step fun K' hK' => ?_
  rw [if_pos hg]
  have h8' : ∀ x ∈ numV K l, B8 x.1 := fun x hx => by
    obtain ⟨y, hy, rfl⟩ := List.mem_map.1 hx
    exact b8_dec (List.all_eq_true.1 h8 y hy)
  have hrun := run_look ht hk hM h8' hs (hz w) false
  rw [(look_num K l s).1] at hrun
  unfold Oper.wp
  simp [execOp, hop, hm, hx, hrun, Result.andThen]
  exact hK' _ _ hK
end Go.Proofs.Ythmpagehmfillaa
