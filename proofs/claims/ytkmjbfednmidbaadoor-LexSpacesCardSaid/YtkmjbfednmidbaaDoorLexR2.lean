/-
  THE WALK OF quillpressref18.Tokens. Conditions: the text's size.
-/
import Derived.Test.YtkmjbfednmidbaaDoorLexR1
namespace Go.Proofs.YtkmjbfednmidbaaDoor
open Go.RowKit
set_option linter.unusedSimpArgs false
set_option linter.unusedVariables false

def RexRel (s : ByteArray) (w wr : World) (ov lv av : Value) : Prop := ∃ (p f ln : Nat) (out : List Tok), av = .int .i64 p ∧ lv = .int .i64 ln ∧ lexF f ((strB s).drop p) ln out = lexN (strB s) ∧ p ≤ s.size ∧ s.size < f + p ∧ ln ≤ p + 1 ∧
  out.length ≤ p ∧ To wr (w.heap.size + 1) ov out ∧ wr.heap[w.heap.size]? = some (.cells #[.int .i64 0, .int .i64 0] 26 (0, 0)) ∧ Below w.heap.size w wr
theorem drop_cons {l : List Nat} {p : Nat} (h : p < l.length) : l.drop p = nth l p :: l.drop (p + 1) := by
  rw [nth_get h]
  exact List.drop_eq_getElem_cons h
theorem nth_drop (l : List Nat) (a j : Nat) : nth (l.drop a) j = nth l (a + j) := by simp [nth, List.getElem?_drop]
theorem extract_mkS2 (s : ByteArray) (a b : Nat) : s.extract a b = mkS (((strB s).drop a).take (b - a)) := by
  rw [← mkS_strB (s.extract a b), strB_extract]
/-- The sign among the last ones. -/
def bst (l : List Nat) (r : Nat) : List Nat := ((signsN.drop r).find? (fun x => x.isPrefixOf l)).getD []
theorem bst_last (l : List Nat) : bst l 21 = [] := rfl
theorem bst_zero (l : List Nat) : bst l 0 = (sgnN l).getD [] := rfl
theorem bst_step {l : List Nat} {r : Nat} (h : r < 21) : bst l r = if List.isPrefixOf (signsN.getD r []) l then signsN.getD r [] else bst l (r + 1) := by
  unfold bst
  rw [List.drop_eq_getElem_cons (by rw [signs_eq]; exact h), List.find?_cons, List.getD_eq_getElem?_getD, List.getElem?_eq_getElem (by rw [signs_eq]; exact h)]
  by_cases hp : List.isPrefixOf (signsN[r]'(by rw [signs_eq]; exact h)) l = true
  · simp [hp]
  · rw [Bool.not_eq_true] at hp
    simp [hp]
theorem bst_mem (l : List Nat) (r : Nat) : bst l r = [] ∨ bst l r ∈ signsN := by
  unfold bst
  cases h : (signsN.drop r).find? (fun x => x.isPrefixOf l) with
  | none => exact .inl rfl
  | some x => exact .inr (List.mem_of_mem_drop (List.mem_of_find?_eq_some h))
theorem sgn_none {l : List Nat} (h : bst l 0 = []) : sgnN l = none := by
  rw [bst_zero] at h
  cases hs : sgnN l with
  | none => rfl
  | some x =>
    rw [hs] at h
    have := (signs_len x (sgn_mem hs).1).1
    have h' : x = [] := h
    rw [h'] at this
    simp at this
theorem sgn_some {l : List Nat} (h : bst l 0 ≠ []) : sgnN l = some (bst l 0) := by
  rw [bst_zero] at h ⊢
  cases hs : sgnN l with
  | none => rw [hs] at h; exact absurd rfl h
  | some x => rfl

/-- What the digits so far are worth. -/
def dd (l : List Nat) (j : Nat) : Nat := decN 0 (l.take (min j 6))
theorem dd_zero (l : List Nat) : dd l 0 = 0 := rfl
theorem dd_step {l : List Nat} {j : Nat} (h : j < 6) (hj : j < l.length) : dd l (j + 1) = dd l j * 10 + (nth l j - 48) := by
  unfold dd
  rw [show min (j + 1) 6 = j + 1 by omega, show min j 6 = j by omega, List.take_succ_eq_append_getElem hj, decN_snoc, nth_get hj]
theorem dd_stay {l : List Nat} {j : Nat} (h : 6 ≤ j) : dd l (j + 1) = dd l j := by
  unfold dd
  rw [show min (j + 1) 6 = 6 by omega, show min j 6 = 6 by omega]
theorem dd_num {l : List Nat} {m : Nat} (hm : m ≤ l.length) : (65536 ≤ numN (l.take m)) ↔ (5 < m ∨ 65535 < dd l m) := by
  unfold numN
  rw [List.length_take, show min m l.length = m by omega]
  by_cases h : 5 < m
  · rw [if_pos h]; omega
  · rw [if_neg h]
    unfold dd
    rw [show min m 6 = m by omega]
    omega
theorem dd_val {l : List Nat} {m : Nat} (hm : m ≤ l.length) (h : ¬ 5 < m) : numN (l.take m) = dd l m := by
  unfold numN dd
  rw [List.length_take, show min m l.length = m by omega, if_neg h, show min m 6 = m by omega]

end Go.Proofs.YtkmjbfednmidbaaDoor
