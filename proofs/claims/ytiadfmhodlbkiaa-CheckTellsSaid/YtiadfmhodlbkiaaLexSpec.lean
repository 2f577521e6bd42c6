/-
  WHAT LEXING IS, on lists of numbers: plain definitions, no program in sight. Conditions: none.
-/
import Derived.Test.YtiadfmhodlbkiaaStr
namespace Go.Proofs.Ytiadfmhodlbkiaa
open Go.RowKit
set_option linter.unusedSimpArgs false
set_option linter.unusedVariables false

def letN (c : Nat) : Bool := decide (97 ≤ c) && decide (c ≤ 122)
def digN (c : Nat) : Bool := decide (48 ≤ c) && decide (c ≤ 57)
def nlN (c : Nat) : Bool := !(c == 10)
/-- A number's worth so far. -/
def decN (n : Nat) (l : List Nat) : Nat := l.foldl (fun n c => n * 10 + (c - 48)) n
def numN (l : List Nat) : Nat := if 5 < l.length then 65536 else decN 0 l
def signsN : List (List Nat) :=
  [[38, 126, 61], [60, 60, 61], [62, 62, 61], [61, 61], [43, 61], [45, 61], [42, 61], [47, 61], [37, 61], [38, 61], [124, 61], [94, 61], [43, 43], [45, 45], [123], [125], [61], [60], [62], [126], [42]]
def sgnN (l : List Nat) : Option (List Nat) := signsN.find? (fun x => x.isPrefixOf l)
/-- A token: kind, text, number, line. -/
structure Tok where
  k : Nat
  s : List Nat
  n : Nat
  ln : Nat
/-- The token that a text begins with, and how long it is. -/
def oneN (l : List Nat) : Option (Tok × Nat) :=
  if 0 < wl letN l then some (⟨1, l.take (wl letN l), 0, 0⟩, wl letN l)
  else if 0 < wl digN l then (if 65536 ≤ numN (l.take (wl digN l)) then none else some (⟨2, [], numN (l.take (wl digN l)), 0⟩, wl digN l))
  else match sgnN l with
    | some x => some (⟨3, x, 0, 0⟩, x.length)
    | none => none
/-- All tokens, or the fault's line. f: fuel. -/
def lexF : Nat → List Nat → Nat → List Tok → List Tok ⊕ Nat
  | 0, _, ln, out => .inl (out ++ [⟨4, [], 0, ln⟩])
  | f + 1, l, ln, out =>
    match l with
    | [] => .inl (out ++ [⟨4, [], 0, ln⟩])
    | c :: r =>
      if c = 10 then lexF f r (ln + 1) out
      else if c = 32 ∨ c = 9 ∨ c = 13 then lexF f r ln out
      else if c = 35 then lexF f (l.drop (wl nlN l)) ln out
      else match oneN l with
        | none => .inr ln
        | some (t, n) => lexF f (l.drop n) ln (out ++ [{ t with ln := ln }])
def lexN (l : List Nat) : List Tok ⊕ Nat := lexF (l.length + 1) l 1 []

theorem decN_snoc (n : Nat) (l : List Nat) (c : Nat) : decN n (l ++ [c]) = decN n l * 10 + (c - 48) := by simp [decN, List.foldl_append]
theorem sgn_mem {l x : List Nat} (h : sgnN l = some x) : x ∈ signsN ∧ x.isPrefixOf l = true := ⟨List.mem_of_find?_eq_some h, by simpa using List.find?_some h⟩
theorem signs_len : ∀ x ∈ signsN, 1 ≤ x.length ∧ x.length ≤ 3 := by decide
theorem signs_lt : ∀ x ∈ signsN, ∀ c ∈ x, c < 256 := by decide
theorem oneN_len {l : List Nat} {t : Tok} {n : Nat} (h : oneN l = some (t, n)) : 1 ≤ n ∧ n ≤ l.length := by
  unfold oneN at h
  split at h
  · rename_i h0
    simp only [Option.some.injEq, Prod.mk.injEq] at h
    have := wl_le letN l
    omega
  · split at h
    · rename_i h0
      split at h
      · cases h
      · simp only [Option.some.injEq, Prod.mk.injEq] at h
        have := wl_le digN l
        omega
    · split at h
      · rename_i x hx
        simp only [Option.some.injEq, Prod.mk.injEq] at h
        obtain ⟨h1, h2⟩ := sgn_mem hx
        have h3 := signs_len x h1
        have h4 : x.length ≤ l.length := (List.isPrefixOf_iff_prefix.1 h2).length_le
        omega
      · cases h
theorem decN_digits {l : List Nat} (h : ∀ x ∈ l, x < 58) : decN 0 l < 10 ^ l.length ∨ l = [] := by
  suffices hs : ∀ (m : List Nat) (n k : Nat), (∀ x ∈ m, x < 58) → n < 10 ^ k → decN n m < 10 ^ (k + m.length) by
    left
    simpa using hs l 0 0 h (by simp)
  intro m
  induction m with
  | nil => intro n k _ hn; simpa [decN] using hn
  | cons c m ih =>
    intro n k hm hn
    have hc := hm c (by simp)
    have := ih (n * 10 + (c - 48)) (k + 1) (fun x hx => hm x (by simp [hx])) (by rw [Nat.pow_succ]; omega)
    show decN (n * 10 + (c - 48)) m < _
    rw [show k + (c :: m).length = k + 1 + m.length by simp; omega]
    exact this
end Go.Proofs.Ytiadfmhodlbkiaa
