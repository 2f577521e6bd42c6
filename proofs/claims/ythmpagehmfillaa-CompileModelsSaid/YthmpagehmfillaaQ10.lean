/-
  A MAP THAT A LITERAL MAKES: string keys, looked up. Conditions: the keys are different.
  THE WALKS OF parse's place, operand, cond. Conditions: a parser.
-/
import Derived.Test.YthmpagehmfillaaQ03
import Derived.Maps.OwnSet
import Derived.Test.YthmpagehmfillaaQ09
namespace Go.Proofs.Ythmpagehmfillaa
open Go.RowKit Go.MapKept
set_option linter.unusedSimpArgs false
set_option linter.unusedVariables false

/-- A map in a block: its entries. -/
def MAt (w : World) (b : Nat) (L : List (List Nat × Value)) : Prop :=
  ∃ es clock, w.heap[b]? = some (.map es clock) ∧ es.toList.map (fun e => (e.key, e.val)) = L.map (fun x => (Value.string (mkS x.1), x.2))
def B8 (s : List Nat) : Prop := ∀ x ∈ s, x < 256
theorem b8_dec {s : List Nat} (h : (s.all fun x => decide (x < 256)) = true) : B8 s := fun x hx => by simpa using List.all_eq_true.1 h x hx
theorem mkS_ne {a b : List Nat} (ha : B8 a) (hb : B8 b) (h : a ≠ b) : mkS a ≠ mkS b := fun e => h (by rw [← strB_mkS ha, ← strB_mkS hb, e])
theorem same_str (a b : ByteArray) : Instr.sameNow .string (.string a) (.string b) = some (decide (a = b)) := by
  obtain ⟨r, h1, h2⟩ := sameNow_of_keys (d := .string) (a := .string a) (b := .string b) trivial trivial
  rw [h1]
  congr 1
  rw [Bool.eq_iff_iff, h2]
  simp
theorem findNow_L {s : List Nat} (hs : B8 s) : ∀ (es : List MapEntry) (L : List (List Nat × Value)) (i : Nat), es.map (fun e => (e.key, e.val)) = L.map (fun x => (Value.string (mkS x.1), x.2)) → (∀ x ∈ L, B8 x.1) →
    ∃ j, Instr.findNow .string (.string (mkS s)) es i = some ((L.find? (fun x => x.1 == s)).map fun x => (j, x.2))
  | [], [], i, _, _ => ⟨0, rfl⟩
  | [], _ :: _, _, h, _ => by cases h
  | _ :: _, [], _, h, _ => by cases h
  | e :: es, x :: L, i, h, h8 => by
    simp only [List.map_cons, List.cons.injEq, Prod.mk.injEq] at h
    obtain ⟨⟨h1, h2⟩, h3⟩ := h
    obtain ⟨j, hj⟩ := findNow_L hs es L (i + 1) h3 (fun y hy => h8 y (List.mem_cons_of_mem _ hy))
    unfold Instr.findNow
    rw [h1, same_str]
    by_cases hx : x.1 = s
    · rw [hx, decide_eq_true rfl]
      refine ⟨i, ?_⟩
      rw [List.find?_cons_of_pos (by simpa using hx)]
      show some (some (i, e.val)) = _
      rw [h2]; rfl
    · rw [decide_eq_false (mkS_ne hs (h8 x (List.mem_cons_self ..)) (Ne.symm hx))]
      refine ⟨j, ?_⟩
      rw [List.find?_cons_of_neg (by simpa using hx)]
      exact hj
section
variable {w w' : World} {b : Nat} {L : List (List Nat × Value)}
theorem MAt.lt (h : MAt w b L) : b < w.heap.size := by
  obtain ⟨es, clock, hb, _⟩ := h
  exact (Array.getElem?_eq_some_iff.1 hb).1
theorem MAt.kept (h : MAt w b L) (hb : w'.heap[b]? = w.heap[b]?) : MAt w' b L := by
  obtain ⟨es, clock, h1, h2⟩ := h
  exact ⟨es, clock, hb.trans h1, h2⟩
theorem MAt.below (h : MAt w b L) (hb : Below w.heap.size w w') : MAt w' b L := h.kept (hb.block b h.lt)
theorem MAt.made (w : World) : MAt (w.alloc (.map #[] 0)) w.heap.size [] := ⟨#[], 0, (heap_alloc w _).1, rfl⟩
end
/-- A map that is being made, and what was there stands. -/
structure MB (W w : World) (b : Nat) (L : List (List Nat × Value)) : Prop where
  be : Below W.heap.size W w
  le : W.heap.size ≤ b
  mp : MAt w b L
  k8 : ∀ x ∈ L, B8 x.1
theorem MB.made (W : World) : MB W (W.alloc (.map #[] 0)) W.heap.size [] := ⟨(Below.refl _ _).alloc (Nat.le_refl _) _, Nat.le_refl _, .made W, fun x hx => by cases hx⟩
theorem MB.cell {W w : World} {b : Nat} {L : List (List Nat × Value)} (h : MB W w b L) {p : Addr} {u : Value} (hc : W.cell? p = some u) : w.cell? p = some u := (h.be.cell (World.block_lt_of_cell? _ _ hc)).trans hc
theorem MB.to {W w : World} {b : Nat} {L L' : List (List Nat × Value)} (h : MB W w b L) (e : L = L') : MAt w b L' := e ▸ h.mp
theorem MB.alloc {W w : World} {b : Nat} {L : List (List Nat × Value)} (h : MB W w b L) (o : Obj) : MB W (w.alloc o) b L :=
  ⟨h.be.alloc h.be.size o, h.le, h.mp.below ((Below.refl _ _).alloc (Nat.le_refl _) o), h.k8⟩
section
variable {P : Program} {w W : World} {ops : Array Oper} {rest : List Oper} {o : Oper} {a : Act} {Q : Exit → Act → World → Prop}
/-- One entry of a literal. -/
theorem wpList_ins (hg : o.guard = none) (m x v : Operand) (t : TypeId) (hop : o.op = .insert t m x v) (k e : TypeId) (ht : P.underlying t = some (.map k e)) (hk : P.underlying k = some .string) (b : Nat) (L : List (List Nat × Value))
    (hm : a.eval m = .map (some b)) (hM : MB W w b L) (S : ByteArray) (hx' : a.eval x = .string S) (val : Value) (hv : a.eval v = val) (hn : (L.all fun x => !(x.1 == strB S)) = true)
    (hK : ∀ w', MB W w' b (L ++ [(strB S, val)]) → wpList P ops Q rest (a.put o.dst undef) w') :
    wpList P ops Q (o :: rest) a w := by
  refine wpList_plain hg fun K' hK' => ?_
  obtain ⟨hbe, hle, ⟨es, clock, hb, he⟩, h8⟩ := hM
  have hs8 : B8 (strB S) := strB_lt S
  have hx : a.eval x = .string (mkS (strB S)) := by rw [mkS_strB]; exact hx'
  generalize strB S = s at *
  obtain ⟨j, hf⟩ := findNow_L hs8 es.toList L 0 he h8
  have hnone : L.find? (fun x => x.1 == s) = none := by
    rw [List.find?_eq_none]
    intro x hx
    have := List.all_eq_true.1 hn x hx
    simpa using this
  rw [hnone] at hf
  have hrun : (Instr.mapUpdate t (.map (some b)) (.string (mkS s)) val).run P w = .ok () { w with heap := w.heap.setIfInBounds b (.map (es.push { key := .string (mkS s), val := val, born := clock }) (clock + 1)) } := by
    unfold Instr.mapUpdate
    simp only [Sem.run_bind, run_underlying ht, Result.andThen, Go.MapKept.run_getObj_map hb, run_checkKey (w := w) hk (k := .string (mkS s)) trivial false 9999, run_findKey (w := w) hk hf]
    exact Go.MapKept.run_setObj_map _ hb
  obtain ⟨q1, q2⟩ := heap_set (o' := .map (es.push { key := .string (mkS s), val := val, born := clock }) (clock + 1)) hb
  have hbw : b < w.heap.size := (Array.getElem?_eq_some_iff.1 hb).1
  unfold Oper.wp
  simp [execOp, hop, hm, hx, hv, hrun, Result.andThen]
  refine hK' _ _ (hK _ ⟨?_, hle, ⟨_, _, q1, ?_⟩, ?_⟩ )
  · exact ⟨hbe.os, hbe.tape, hbe.output, by simpa using hbe.size, fun i hi => (q2 i (by omega)).trans (hbe.block i hi)⟩
  · simp [he]
  · intro y hy
    rcases List.mem_append.1 hy with hy | hy
    · exact h8 y hy
    · rw [List.mem_singleton.1 hy]; exact hs8
/-- What a look-up answers. -/
def lookV (L : List (List Nat × Value)) (s : List Nat) (z : Value) : Value := ((L.find? (fun x => x.1 == s)).map (·.2)).getD z
def hasV (L : List (List Nat × Value)) (s : List Nat) : Bool := (L.find? (fun x => x.1 == s)).isSome
theorem run_look {t k e : TypeId} (ht : P.underlying t = some (.map k e)) (hk : P.underlying k = some .string) {b : Nat} {L : List (List Nat × Value)} (hM : MAt w b L) (h8 : ∀ x ∈ L, B8 x.1) {s : List Nat} (hs : B8 s) {z : Value} (hz : (zeroValue e).run P w = .ok z w) (ok : Bool) :
    (Instr.lookup t (.map (some b)) (.string (mkS s)) ok).run P w = .ok (if ok then .tuple #[lookV L s z, .bool (hasV L s)] else lookV L s z) w := by
  obtain ⟨es, clock, hb, he⟩ := hM
  obtain ⟨j, hf⟩ := findNow_L hs es.toList L 0 he h8
  unfold Instr.lookup lookV hasV
  cases hq : L.find? (fun x => x.1 == s) with
  | none =>
    rw [hq] at hf
    simp only [Sem.run_bind, run_underlying ht, Result.andThen, Go.MapKept.run_getObj_map hb, run_checkKey (w := w) hk (k := .string (mkS s)) trivial es.isEmpty 9999, run_findKey (w := w) hk hf, Option.map_none, Sem.run_pure, hz]
    cases ok <;> rfl
  | some x =>
    rw [hq] at hf
    simp only [Sem.run_bind, run_underlying ht, Result.andThen, Go.MapKept.run_getObj_map hb, run_checkKey (w := w) hk (k := .string (mkS s)) trivial es.isEmpty 9999, run_findKey (w := w) hk hf, Option.map_some, Sem.run_pure]
    cases ok <;> rfl
theorem look_mem {l : List (List Nat × Nat)} {s : List Nat} {n : Nat} (h : (l.find? (fun x => x.1 == s)).map (·.2) = some n) : (s, n) ∈ l := by
  cases hq : l.find? (fun x => x.1 == s) with
  | none => rw [hq] at h; cases h
  | some x =>
    rw [hq] at h
    have h1 := List.mem_of_find?_eq_some hq
    have h2 : x.1 = s := by simpa using List.find?_some hq
    have h3 : x.2 = n := by simpa using h
    rw [← h2, ← h3]; exact h1
/-- 'v, ok := m[k]' where the elements are whole numbers. -/
def numV (K : IntKind) (l : List (List Nat × Nat)) : List (List Nat × Value) := l.map fun x => (x.1, .int K x.2)
def lookN (l : List (List Nat × Nat)) (s : List Nat) : Option Nat := (l.find? (fun x => x.1 == s)).map (·.2)
theorem look_num (K : IntKind) (l : List (List Nat × Nat)) (s : List Nat) : lookV (numV K l) s (.int K 0) = .int K ((lookN l s).getD 0 : Nat) ∧ hasV (numV K l) s = (lookN l s).isSome := by
  unfold lookV hasV numV lookN
  rw [List.find?_map, show ((fun x : List Nat × Value => x.1 == s) ∘ fun x : List Nat × Nat => (x.1, Value.int K x.2)) = (fun x => x.1 == s) from rfl]
  cases l.find? (fun x => x.1 == s) <;> exact ⟨rfl, rfl⟩
theorem wpList_lookN (hg : o.guard = none) (m x : Operand) (t : TypeId) (hop : o.op = .lookup t m x true) (k e : TypeId) (K : IntKind) (ht : P.underlying t = some (.map k e)) (hk : P.underlying k = some .string) (hz : ∀ w, (zeroValue e).run P w = .ok (.int K 0) w)
    (b : Nat) (l : List (List Nat × Nat)) (hm : a.eval m = .map (some b)) (hM : MAt w b (numV K l)) (h8 : (l.all fun x => x.1.all fun y => decide (y < 256)) = true) (s : List Nat) (hs : B8 s) (hx : a.eval x = .string (mkS s))
    (hK : wpList P ops Q rest (a.put o.dst (.tuple #[.int K ((lookN l s).getD 0 : Nat), .bool (lookN l s).isSome])) w) : wpList P ops Q (o :: rest) a w := by
  refine wpList_plain hg fun K' hK' => ?_
  have h8' : ∀ x ∈ numV K l, B8 x.1 := fun x hx => by
    obtain ⟨y, hy, rfl⟩ := List.mem_map.1 hx
    exact b8_dec (List.all_eq_true.1 h8 y hy)
  have hrun := run_look ht hk hM h8' hs (hz w) true
  rw [(look_num K l s).1, (look_num K l s).2] at hrun
  unfold Oper.wp
  simp [execOp, hop, hm, hx, hrun, Result.andThen]
  exact hK' _ _ hK
end
end Go.Proofs.Ythmpagehmfillaa
namespace Go.Proofs.Ythmpagehmfillaa
open Go.RowKit
set_option linter.unusedSimpArgs false
set_option linter.unusedVariables false
section
variable {w : World} {B gp gi : Nat} {l : List Tok} {b : Option Flt} {many : Nat}
theorem zero_int (w : World) : (zeroValue 3).run Try.prog w = .ok (.int .i64 0) w := by kernel_rfl
theorem PS.be {W : World} {gm : Nat} {L : List (List Nat × Value)} (h : PS B W gp l b many) (hm : MB W w gm L) : PS B w gp l b many := h.below hm.be
theorem regs_le {s : List Nat} {n : Nat} (h : look regs s = some n) : n ≤ 3 ∧ s ≠ [] := by
  have h1 := look_mem h
  have h2 : ∀ x ∈ regs, x.2 ≤ 3 ∧ x.1 ≠ [] := by decide
  exact h2 _ h1
section
variable {r : Bool} {l1 : List Tok} {x : Nat}
theorem place_no (hr : r = (b.isNone && decide ((hd l).s = [42]))) (h1 : l1 = if r = true then l.tail else l) (h : look regs (hd l1).s = none ∨ (r = true ∧ look regs (hd l1).s = some 0)) : Rel place l b x l1 (b.or (some (121, (hd l1).ln))) := by
  cases b with
  | some e => rfl
  | none =>
    unfold Rel place
    by_cases hs : (hd l).s = [42]
    · have : r = true := by rw [hr]; simp [hs]
      rw [if_pos this] at h1
      subst h1
      rw [if_pos hs]
      rcases h with h | ⟨-, h⟩ <;> rw [h] <;> rfl
    · have : r = false := by rw [hr]; simp [hs]
      subst this
      rw [if_neg (by decide)] at h1
      subst h1
      rw [if_neg hs]
      rcases h with h | ⟨h, -⟩
      · rw [h]; rfl
      · cases h
theorem place_reg {n : Nat} (hr : false = (b.isNone && decide ((hd l).s = [42]))) (h : look regs (hd l).s = some n) : Rel place l b n l.tail b := by
  cases b with
  | some e => rfl
  | none =>
    have hs : (hd l).s ≠ [42] := by simpa using hr
    unfold Rel place
    rw [if_neg hs, h]
    exact ⟨rfl, rfl, rfl⟩
theorem place_mem {n : Nat} (hr : true = (b.isNone && decide ((hd l).s = [42]))) (h : look regs (hd l.tail).s = some (n + 1)) : Rel place l b (n + 4) l.tail.tail b := by
  cases b with
  | some e => cases hr
  | none =>
    have hs : (hd l).s = [42] := by simpa using hr
    unfold Rel place
    rw [if_pos hs, h]
    exact ⟨rfl, rfl, rfl⟩
end
set_option maxRecDepth 100000 in
theorem pplace_any (h : PS B w gp l b many) : Calls Try.prog 99 #[.pointer (some ⟨gp, 0, none⟩)] w fun e w' => ∃ n l' b', n ≤ 6 ∧ e = .returned (.int .i64 (n : Nat)) ∧ PS B w' gp l' b' many ∧ Rel place l b n l' b' ∧ w.grownBy w' (some gp) := by
  have HI := Lib.hid (pmay_any h ⟨#[42]⟩ [42] rfl (by decide) (by decide))
  clear h
  go_enter Try.func99, Try.ntmps99
  go_wp2_with fail
  refine HI.out.mono ?_
  rintro e W ⟨r, hr, rfl, h1, h2⟩
  have HR := Lib.hid hr
  have H2 := Lib.hid h2
  clear hr h2
  obtain ⟨l1, hl1⟩ : ∃ l1, l1 = if r = true then l.tail else l := ⟨_, rfl⟩
  rw [← hl1] at h1
  have HL1 := Lib.hid hl1
  obtain ⟨g, o, c, q1, q2, q3, q4, q5, q6⟩ := h1.ex
  obtain ⟨t0, t1, t2, t3⟩ := q6.head h1.tl
  have f0 : W.cell? ⟨gp, 0, none⟩ = some (.slice (some ⟨g, o, none⟩) l1.length c) := q1.cell (by omega)
  have hl : 0 < l1.length := List.length_pos_iff.2 h1.tl.ne
  have hlI : (0 : Int) < l1.length := by omega
  obtain ⟨s, hs⟩ : ∃ s, s = (hd l1).s := ⟨_, rfl⟩
  have hs8 : B8 s := by rw [hs]; exact h1.tl.hd_ok.1
  rw [← hs] at t1
  have HS := Lib.hid hs
  have H1 := Lib.hid h1
  have F0 := Lib.hid f0
  have T1 := Lib.hid t1
  clear h1 hl1 q1 q6 t0 t2 t3 hs
  have hmm := @run_makeMap Try.prog
  have hMB := MB.made W
  have hw0 : Hid (w.heap.size ≤ W.heap.size) := H2.out.size
  clear HI
  cases hlk : look regs s with
  | none =>
    have HLK := Lib.hid hlk
    cases r with
    | true =>
      go_wp2_with (first
        | (refine wpList_ins rfl _ _ _ _ rfl 9 3 Try.underlying178 Try.underlying9 _ _ rfl hMB _ rfl _ rfl (by rfl) ?_; clear hMB f0 t1; intro W1 hMB; have f0 := hMB.cell F0.out; have t1 := hMB.cell T1.out)
        | (refine wpList_lookN rfl _ _ _ rfl 9 3 .i64 Try.underlying178 Try.underlying9 zero_int _ regs rfl (hMB.to (by kernel_rfl)) (by decide) s hs8 rfl ?_; rw [show lookN regs s = _ from hlk]; dsimp only [Option.getD_some, Option.isSome_some, Option.getD_none, Option.isSome_none]))
      have hb1 := hMB.be
      have hp1 := H1.out.be hMB
      clear f0 t1 hMB
      have HP1 := Lib.hid hp1
      have HB1 := Lib.hid (nil_grown H2.out (grown_of_below hb1 (some gp)))
      have HF := Lib.hid (pfail_any hp1 121 (by decide))
      clear hp1 hb1
      refine HF.out.mono ?_
      rintro e w2 ⟨rfl, h1, h2⟩
      have H3 := Lib.hid h1
      have H4 := Lib.hid h2
      clear h1 h2
      go_wp2_with fail
      go_ret
      exact ⟨0, l1, _, by omega, rfl, H3.out, place_no HR.out HL1.out (.inl (HS.out ▸ HLK.out)), nil_grown HB1.out H4.out⟩
    | false =>
      go_wp2_with (first
        | (refine wpList_ins rfl _ _ _ _ rfl 9 3 Try.underlying178 Try.underlying9 _ _ rfl hMB _ rfl _ rfl (by rfl) ?_; clear hMB f0 t1; intro W1 hMB; have f0 := hMB.cell F0.out; have t1 := hMB.cell T1.out)
        | (refine wpList_lookN rfl _ _ _ rfl 9 3 .i64 Try.underlying178 Try.underlying9 zero_int _ regs rfl (hMB.to (by kernel_rfl)) (by decide) s hs8 rfl ?_; rw [show lookN regs s = _ from hlk]; dsimp only [Option.getD_some, Option.isSome_some, Option.getD_none, Option.isSome_none]))
      have hb1 := hMB.be
      have hp1 := H1.out.be hMB
      clear f0 t1 hMB
      have HP1 := Lib.hid hp1
      have HB1 := Lib.hid (nil_grown H2.out (grown_of_below hb1 (some gp)))
      have HF := Lib.hid (pfail_any hp1 121 (by decide))
      clear hp1 hb1
      refine HF.out.mono ?_
      rintro e w2 ⟨rfl, h1, h2⟩
      have H3 := Lib.hid h1
      have H4 := Lib.hid h2
      clear h1 h2
      go_wp2_with fail
      go_ret
      exact ⟨0, l1, _, by omega, rfl, H3.out, place_no HR.out HL1.out (.inl (HS.out ▸ HLK.out)), nil_grown HB1.out H4.out⟩
  | some n =>
    have hn := regs_le hlk
    have HK4 : Hid ((hd l1).k ≠ 4) := (H1.out.tl.hd_s (by rw [← HS.out]; exact hn.2)).1
    have HLK := Lib.hid hlk
    cases r with
    | false =>
      go_wp2_with (first
        | (refine wpList_ins rfl _ _ _ _ rfl 9 3 Try.underlying178 Try.underlying9 _ _ rfl hMB _ rfl _ rfl (by rfl) ?_; clear hMB f0 t1; intro W1 hMB; have f0 := hMB.cell F0.out; have t1 := hMB.cell T1.out)
        | (refine wpList_lookN rfl _ _ _ rfl 9 3 .i64 Try.underlying178 Try.underlying9 zero_int _ regs rfl (hMB.to (by kernel_rfl)) (by decide) s hs8 rfl ?_; rw [show lookN regs s = _ from hlk]; dsimp only [Option.getD_some, Option.isSome_some, Option.getD_none, Option.isSome_none]))
      have hb1 := hMB.be
      have hp1 := H1.out.be hMB
      clear f0 t1 hMB
      have HB1 := Lib.hid (nil_grown H2.out (grown_of_below hb1 (some gp)))
      have hst := pstep_any hp1
      rw [if_neg HK4.out] at hst
      have HF := Lib.hid hst
      clear hp1 hb1 hst
      refine HF.out.mono ?_
      rintro e w2 ⟨rfl, h1, h2⟩
      have H3 := Lib.hid h1
      have H4 := Lib.hid h2
      clear h1 h2
      go_wp2_with fail
      go_ret
      exact ⟨n, l1.tail, b, by omega, rfl, H3.out, by have hl1 : l1 = l := HL1.out; subst hl1; exact place_reg HR.out (HS.out ▸ HLK.out), nil_grown HB1.out H4.out⟩
    | true =>
      cases n with
      | zero =>
        go_wp2_with (first
          | (refine wpList_ins rfl _ _ _ _ rfl 9 3 Try.underlying178 Try.underlying9 _ _ rfl hMB _ rfl _ rfl (by rfl) ?_; clear hMB f0 t1; intro W1 hMB; have f0 := hMB.cell F0.out; have t1 := hMB.cell T1.out)
          | (refine wpList_lookN rfl _ _ _ rfl 9 3 .i64 Try.underlying178 Try.underlying9 zero_int _ regs rfl (hMB.to (by kernel_rfl)) (by decide) s hs8 rfl ?_; rw [show lookN regs s = _ from hlk]; dsimp only [Option.getD_some, Option.isSome_some, Option.getD_none, Option.isSome_none]))
        have hb1 := hMB.be
        have hp1 := H1.out.be hMB
        clear f0 t1 hMB
        have HP1 := Lib.hid hp1
        have HB1 := Lib.hid (nil_grown H2.out (grown_of_below hb1 (some gp)))
        have HF := Lib.hid (pfail_any hp1 121 (by decide))
        clear hp1 hb1
        refine HF.out.mono ?_
        rintro e w2 ⟨rfl, h1, h2⟩
        have H3 := Lib.hid h1
        have H4 := Lib.hid h2
        clear h1 h2
        go_wp2_with fail
        go_ret
        exact ⟨0, l1, _, by omega, rfl, H3.out, place_no HR.out HL1.out (.inr ⟨rfl, HS.out ▸ HLK.out⟩), nil_grown HB1.out H4.out⟩
      | succ n =>
        have hnz : (((n + 1 : Nat) : Int) == 0) = false := by rw [beq_eq_false_iff_ne]; omega
        have hnw : IntKind.i64.wrap (((n + 1 : Nat) : Int) + 3) = ((n + 4 : Nat) : Int) := by rw [IntKind.wrap_i64]; omega
        go_wp2_with (first
          | (refine wpList_ins rfl _ _ _ _ rfl 9 3 Try.underlying178 Try.underlying9 _ _ rfl hMB _ rfl _ rfl (by rfl) ?_; clear hMB f0 t1; intro W1 hMB; have f0 := hMB.cell F0.out; have t1 := hMB.cell T1.out)
          | (refine wpList_lookN rfl _ _ _ rfl 9 3 .i64 Try.underlying178 Try.underlying9 zero_int _ regs rfl (hMB.to (by kernel_rfl)) (by decide) s hs8 rfl ?_; rw [show lookN regs s = _ from hlk]; dsimp only [Option.getD_some, Option.isSome_some, Option.getD_none, Option.isSome_none]))
        have hb1 := hMB.be
        have hp1 := H1.out.be hMB
        clear f0 t1 hMB
        have HB1 := Lib.hid (nil_grown H2.out (grown_of_below hb1 (some gp)))
        have hst := pstep_any hp1
        rw [if_neg HK4.out] at hst
        have HF := Lib.hid hst
        clear hp1 hb1 hst
        refine HF.out.mono ?_
        rintro e w2 ⟨rfl, h1, h2⟩
        have H3 := Lib.hid h1
        have H4 := Lib.hid h2
        clear h1 h2
        go_wp2_with fail
        go_ret
        exact ⟨n + 4, l1.tail, b, by omega, rfl, H3.out, by have hl1 : l1 = l.tail := HL1.out; subst hl1; exact place_mem HR.out (HS.out ▸ HLK.out), nil_grown HB1.out H4.out⟩
/-- Two cells of a row. -/
def up2 (f : Nat → Value) (k : Nat) (u v : Value) : Nat → Value := fun i => if i = k then u else if i = k + 1 then v else f i
theorem up2_set {w : World} {g t n k : Nat} {f : Nat → Value} (h : w.rowIs g t n f) (u v : Value) : ((w.setCell ⟨g, k, none⟩ u).setCell ⟨g, k + 1, none⟩ v).rowIs g t n (up2 f k u v) :=
  ((h.set k u).set (k + 1) v).congr fun i hi => by
    unfold up2
    by_cases h1 : i = k
    · subst h1; simp
    · by_cases h2 : i = k + 1 <;> simp [h1, h2]
theorem up2_one {w : World} {g t n k : Nat} {f : Nat → Value} (h : w.rowIs g t n f) (u v : Value) (hv : f (k + 1) = v) : (w.setCell ⟨g, k, none⟩ u).rowIs g t n (up2 f k u v) :=
  (h.set k u).congr fun i hi => by
    unfold up2
    by_cases h1 : i = k
    · subst h1; simp
    · by_cases h2 : i = k + 1
      · subst h2; simp [hv]
      · simp [h1, h2]
theorem poperand_any {W0 : World} (h : PS B w gp l b many) (hW : W0.grownBy w (some gp)) (hW0 : W0.heap.size ≤ gi) (hB : B ≤ gi) {t n o : Nat} {f : Nat → Value} (hi : w.rowIs gi t n f) (ho : o + 3 < n) (f3 : f (o + 2 + 1) = .int .i64 0) :
    Calls Try.prog 102 #[.pointer (some ⟨gp, 0, none⟩), .pointer (some ⟨gi, o, none⟩)] w fun e w' => e = .returned (.tuple #[]) ∧ ∃ s m l' b', s ≤ 7 ∧ m ≤ 65535 ∧ PS B w' gp l' b' many ∧ w'.rowIs gi t n (up2 f (o + 2) (.int .i64 (s : Nat)) (.int .i64 (m : Nat))) ∧ Rel operand l b (s, m) l' b' ∧ W0.grownBy w' (some gp) := by
  obtain ⟨g, og, c, q1, q2, q3, q4, q5, q6⟩ := h.ex
  obtain ⟨t0, t1, t2, t3⟩ := q6.head h.tl
  have f0 : w.cell? ⟨gp, 0, none⟩ = some (.slice (some ⟨g, og, none⟩) l.length c) := q1.cell (by omega)
  have hl : 0 < l.length := List.length_pos_iff.2 h.tl.ne
  have hlI : (0 : Int) < l.length := by omega
  have hgg : gi ≠ gp := by have := h.bp; omega
  have HGG := Lib.hid hgg
  have HI := Lib.hid hi
  have HW := Lib.hid (And.intro hW hW0)
  have HBB := Lib.hid hB
  have HF3 := Lib.hid f3
  have HN := Lib.hid (pnum_any h 255 (by decide))
  have HP := Lib.hid (pplace_any h)
  clear h hW hW0 hi q1 q6 t1 t2 t3 hgg f3 hB
  by_cases hk : (hd l).k = 2
  · rw [hk] at t0
    have HK := Lib.hid hk
    clear hk
    go_enter Try.func102, Try.ntmps102
    go_wp2_with fail
    refine HN.out.mono ?_
    rintro e w2 ⟨m, l', b', hm, rfl, h1, hr, hg⟩
    have hi2 := grown_row hg HI.out HGG.out
    have z2 := hi2.frozen (o + 2)
    have z3 := hi2.frozen (o + 2 + 1)
    have c2 := hi2.cell (show o + 2 < n by omega)
    have c3 := hi2.cell (show o + 2 + 1 < n by omega)
    have H1 := Lib.hid h1
    have HR := Lib.hid hr
    have HG := Lib.hid hg
    have HI2 := Lib.hid hi2
    clear h1 hr hg hi2 t0 f0
    go_wp2_with fail
    (try simp only [Exit.inBlock, Exit.then])
    refine bodyPost_ret (results_none rfl _ _ _) rfl ?_
    refine ⟨rfl, 7, m, l', b', by omega, hm, (H1.out.off (p := ⟨gi, o + 2, none⟩) HBB.out _).off (p := ⟨gi, o + 2 + 1, none⟩) HBB.out _, up2_set HI2.out _ _, ?_, grown_set (grown_set (nil_grown HW.out.1 HG.out) (.inr HW.out.2) _) (.inr HW.out.2) _⟩
    have hr := HR.out
    unfold Rel at hr ⊢
    unfold operand
    rw [if_pos HK.out]
    cases b with
    | some e => exact hr
    | none =>
      cases hq : num 255 l with
      | error e => rw [hq] at hr; exact hr
      | ok y => rw [hq] at hr; obtain ⟨h1, h2, h3⟩ := hr; exact ⟨h1, by rw [h2], h3⟩
  · have hk1 : (((hd l).k : Int) == 2) = false := by rw [beq_eq_false_iff_ne]; omega
    have HK := Lib.hid hk
    clear hk
    go_enter Try.func102, Try.ntmps102
    go_wp2_with fail
    refine HP.out.mono ?_
    rintro e w2 ⟨m, l', b', hm, rfl, h1, hr, hg⟩
    have hi2 := grown_row hg HI.out HGG.out
    have z2 := hi2.frozen (o + 2)
    have c2 := hi2.cell (show o + 2 < n by omega)
    have H1 := Lib.hid h1
    have HR := Lib.hid hr
    have HG := Lib.hid hg
    have HI2 := Lib.hid hi2
    clear h1 hr hg hi2 t0 f0
    go_wp2_with fail
    go_end0
    refine ⟨rfl, m, 0, l', b', by omega, by omega, H1.out.off (p := ⟨gi, o + 2, none⟩) HBB.out _, up2_one HI2.out _ _ HF3.out, ?_, grown_set (nil_grown HW.out.1 HG.out) (.inr HW.out.2) _⟩
    have hr := HR.out
    unfold Rel at hr ⊢
    unfold operand
    rw [if_neg HK.out]
    cases b with
    | some e => exact hr
    | none =>
      cases hq : place l with
      | error e => rw [hq] at hr; exact hr
      | ok y => rw [hq] at hr; obtain ⟨h1, h2, h3⟩ := hr; exact ⟨h1, by rw [h2], h3⟩
end
end Go.Proofs.Ythmpagehmfillaa
