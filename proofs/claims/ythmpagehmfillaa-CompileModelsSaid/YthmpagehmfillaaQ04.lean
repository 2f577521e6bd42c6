/-
  WHAT LEXING IS, on lists of numbers: plain definitions, no program in sight. Conditions: none.
  WHAT PARSING IS, on lists of tokens: plain definitions, no program in sight. Conditions: none.
-/
import Derived.Test.YthmpagehmfillaaQ03
namespace Go.Proofs.Ythmpagehmfillaa
open Go.RowKit
set_option linter.unusedSimpArgs false
set_option linter.unusedVariables false

def letN (c : Nat) : Bool := decide (97 ≤ c) && decide (c ≤ 122)
def digN (c : Nat) : Bool := decide (48 ≤ c) && decide (c ≤ 57)
def nlN (c : Nat) : Bool := !(c == 10)
/-- A number's worth so far. -/
def decN (n : Nat) (l : List Nat) : Nat := l.foldl (fun n c => n * 10 + (c - 48)) n
def numN (l : List Nat) : Nat := if 5 < l.length then 65536 else decN 0 l
def signsN : List (List Nat) :=
  [[38, 126, 61], [60, 60, 61], [62, 62, 61], [61, 61], [43, 61], [45, 61], [42, 61], [47, 61], [37, 61], [38, 61], [124, 61], [94, 61], [43, 43], [45, 45], [123], [125], [61], [60], [62], [126], [42]]
def sgnN (l : List Nat) : Option (List Nat) := signsN.find? (fun x => x.isPrefixOf l)
/-- A token: kind, text, number, line. -/
structure Tok where
  k : Nat
  s : List Nat
  n : Nat
  ln : Nat
/-- The token that a text begins with, and how long it is. -/
def oneN (l : List Nat) : Option (Tok × Nat) :=
  if 0 < wl letN l then some (⟨1, l.take (wl letN l), 0, 0⟩, wl letN l)
  else if 0 < wl digN l then (if 65536 ≤ numN (l.take (wl digN l)) then none else some (⟨2, [], numN (l.take (wl digN l)), 0⟩, wl digN l))
  else match sgnN l with
    | some x => some (⟨3, x, 0, 0⟩, x.length)
    | none => none
/-- All tokens, or the fault's line. f: fuel. -/
def lexF : Nat → List Nat → Nat → List Tok → List Tok ⊕ Nat
  | 0, _, ln, out => .inl (out ++ [⟨4, [], 0, ln⟩])
  | f + 1, l, ln, out =>
    match l with
    | [] => .inl (out ++ [⟨4, [], 0, ln⟩])
    | c :: r =>
      if c = 10 then lexF f r (ln + 1) out
      else if c = 32 ∨ c = 9 ∨ c = 13 then lexF f r ln out
      else if c = 35 then lexF f (l.drop (wl nlN l)) ln out
      else match oneN l with
        | none => .inr ln
        | some (t, n) => lexF f (l.drop n) ln (out ++ [{ t with ln := ln }])
def lexN (l : List Nat) : List Tok ⊕ Nat := lexF (l.length + 1) l 1 []

theorem decN_snoc (n : Nat) (l : List Nat) (c : Nat) : decN n (l ++ [c]) = decN n l * 10 + (c - 48) := by simp [decN, List.foldl_append]
theorem sgn_mem {l x : List Nat} (h : sgnN l = some x) : x ∈ signsN ∧ x.isPrefixOf l = true := ⟨List.mem_of_find?_eq_some h, by simpa using List.find?_some h⟩
theorem signs_len : ∀ x ∈ signsN, 1 ≤ x.length ∧ x.length ≤ 3 := by decide
theorem signs_lt : ∀ x ∈ signsN, ∀ c ∈ x, c < 256 := by decide
theorem oneN_len {l : List Nat} {t : Tok} {n : Nat} (h : oneN l = some (t, n)) : 1 ≤ n ∧ n ≤ l.length := by
  unfold oneN at h
  split at h
  · rename_i h0
    simp only [Option.some.injEq, Prod.mk.injEq] at h
    have := wl_le letN l
    omega
  · split at h
    · rename_i h0
      split at h
      · cases h
      · simp only [Option.some.injEq, Prod.mk.injEq] at h
        have := wl_le digN l
        omega
    · split at h
      · rename_i x hx
        simp only [Option.some.injEq, Prod.mk.injEq] at h
        obtain ⟨h1, h2⟩ := sgn_mem hx
        have h3 := signs_len x h1
        have h4 : x.length ≤ l.length := (List.isPrefixOf_iff_prefix.1 h2).length_le
        omega
      · cases h
theorem decN_digits {l : List Nat} (h : ∀ x ∈ l, x < 58) : decN 0 l < 10 ^ l.length ∨ l = [] := by
  suffices hs : ∀ (m : List Nat) (n k : Nat), (∀ x ∈ m, x < 58) → n < 10 ^ k → decN n m < 10 ^ (k + m.length) by
    left
    simpa using hs l 0 0 h (by simp)
  intro m
  induction m with
  | nil => intro n k _ hn; simpa [decN] using hn
  | cons c m ih =>
    intro n k hm hn
    have hc := hm c (by simp)
    have := ih (n * 10 + (c - 48)) (k + 1) (fun x hx => hm x (by simp [hx])) (by rw [Nat.pow_succ]; omega)
    show decN (n * 10 + (c - 48)) m < _
    rw [show k + (c :: m).length = k + 1 + m.length by simp; omega]
    exact this
end Go.Proofs.Ythmpagehmfillaa
namespace Go.Proofs.Ythmpagehmfillaa
set_option linter.unusedSimpArgs false
set_option linter.unusedVariables false

/-- An instruction, a condition, a list of statements, one of them. -/
structure InsS where
  o : Nat
  d : Int
  s : Int
  n : Int
  deriving DecidableEq
structure ConS where
  nt : Bool
  i : InsS
  deriving DecidableEq
inductive Sts where
  | nil
  | cons (k : Nat) (i : InsS) (c : ConS) (b e : Sts) (ln : Int) (r : Sts)
structure StS where
  k : Nat
  i : InsS
  c : ConS
  b : Sts
  e : Sts
  ln : Int
def i0 : InsS := ⟨0, 0, 0, 0⟩
def c0 : ConS := ⟨false, i0⟩
def Sts.push : Sts → StS → Sts
  | .nil, x => .cons x.k x.i x.c x.b x.e x.ln .nil
  | .cons k i c b e ln r, x => .cons k i c b e ln (r.push x)
def Sts.len : Sts → Nat
  | .nil => 0
  | .cons _ _ _ _ _ _ r => r.len + 1
theorem Sts.push_len (T : Sts) (x : StS) : (T.push x).len = T.len + 1 := by
  induction T with
  | nil => rfl
  | cons k i c b e ln r _ _ ih => show (r.push x).len + 1 = _; rw [ih]; rfl
structure PartS where
  k : Nat
  size : Int
  a : Int
  b : Int
  c : Int
  rate : Int
  limit : Int
  deriving DecidableEq
structure CfgS where
  h : Int
  m : Int
  ph : Int
  pm : Int
  parts : List PartS
  code : Sts
  post : Sts
  has : Bool

/-- A fault: its error, its line. -/
abbrev Flt := Nat × Nat
abbrev Res (α : Type) := Except Flt α
def hd (l : List Tok) : Tok := match l with
  | [] => ⟨4, [], 0, 0⟩
  | t :: _ => t
def look (L : List (List Nat × Nat)) (s : List Nat) : Option Nat := (L.find? (fun x => x.1 == s)).map (·.2)
def regs : List (List Nat × Nat) := [([97], 0), ([98], 1), ([99], 2), ([100], 3)]
def cmps : List (List Nat × Nat) := [([61, 61], 19), ([60], 20), ([62], 21)]
def opsL : List (List Nat × Nat) := [([43, 61], 8), ([45, 61], 9), ([42, 61], 10), ([47, 61], 11), ([37, 61], 12), ([38, 61], 13), ([38, 126, 61], 14), ([124, 61], 15), ([94, 61], 16), ([60, 60, 61], 17), ([62, 62, 61], 18)]
def bareL : List (List Nat × Nat) := [([104, 97, 115, 104], 24), ([104, 97, 115, 104, 100], 25), ([111, 117, 116], 26)]
def unaL : List (List Nat × Nat) := [([122, 101, 114, 111], 6), ([115, 119, 97, 112], 7), ([126], 5)]
def firL : List (List Nat × Nat) := [([104, 97, 108, 116], 1), ([114], 1), ([105, 102], 1), ([100, 111], 1), ([42], 1), ([97], 1), ([98], 1), ([99], 1), ([100], 1)]

def must (s : List Nat) (l : List Tok) : Res (Unit × List Tok) := if (hd l).s = s then .ok ((), l.tail) else .error (121, (hd l).ln)
def num (m : Nat) (l : List Tok) : Res (Nat × List Tok) :=
  if (hd l).k = 2 then (if m < (hd l).n then .error (123, (hd l).ln) else .ok ((hd l).n, l.tail)) else .error (121, (hd l).ln)
def place (l : List Tok) : Res (Nat × List Tok) :=
  if (hd l).s = [42] then
    match look regs (hd l.tail).s with
    | some (n + 1) => .ok (n + 4, l.tail.tail)
    | _ => .error (121, (hd l.tail).ln)
  else match look regs (hd l).s with
    | some n => .ok (n, l.tail)
    | none => .error (121, (hd l).ln)
def operand (l : List Tok) : Res ((Nat × Nat) × List Tok) :=
  if (hd l).k = 2 then (match num 255 l with
    | .ok (n, l) => .ok ((7, n), l)
    | .error e => .error e)
  else match place l with
    | .ok (n, l) => .ok ((n, 0), l)
    | .error e => .error e
def cond (l : List Tok) : Res (ConS × List Tok) :=
  let nt := decide ((hd l).s = [110, 111, 116])
  match must [97] (if nt then l.tail else l) with
  | .error e => .error e
  | .ok (_, l) =>
    match look cmps (hd l).s with
    | none => .error (121, (hd l).ln)
    | some o => match operand l.tail with
      | .error e => .error e
      | .ok (x, l) => .ok (⟨nt, ⟨o, 0, x.1, x.2⟩⟩, l)
def onP2 (d : Nat) (l : List Tok) : Res (InsS × List Tok) :=
  if (hd l).s = [43, 43] then .ok (⟨3, d, 0, 0⟩, l.tail)
  else if (hd l).s = [45, 45] then .ok (⟨4, d, 0, 0⟩, l.tail)
  else if (look opsL (hd l).s).isSome ∧ d = 0 then
    match operand l.tail with
    | .error e => .error e
    | .ok (x, l') => .ok (⟨(look opsL (hd l).s).getD 0, 0, x.1, x.2⟩, l')
  else if (hd l).s = [61] then
    if (hd l.tail).k = 2 then (match num 255 l.tail with
      | .error e => .error e
      | .ok (n, l) => .ok (⟨2, d, 0, n⟩, l))
    else if (hd l.tail).s = [114] ∧ d ≤ 3 then (match num 255 l.tail.tail with
      | .error e => .error e
      | .ok (n, l) => .ok (⟨22, d, 0, n⟩, l))
    else match place l.tail with
      | .error e => .error e
      | .ok (s, l) => .ok (⟨1, d, s, 0⟩, l)
  else .error (121, (hd l).ln)
def onPlace (l : List Tok) : Res (InsS × List Tok) :=
  match place l with
  | .error e => .error e
  | .ok (d, l) => onP2 d l
/-- A block's parser. -/
abbrev Blk := List Tok → Nat → Res (Sts × List Tok × Nat)
def kStmt (t : Tok) (many : Nat) (k : Nat) (r : Res (InsS × List Tok)) : Res (StS × List Tok × Nat) :=
  match r with
  | .error e => .error e
  | .ok (i, l) => .ok (⟨k, i, c0, .nil, .nil, t.ln⟩, l, many)
def store (l : List Tok) : Res (InsS × List Tok) :=
  match num 255 l with
  | .error e => .error e
  | .ok (n, l) => match must [61] l with
    | .error e => .error e
    | .ok (_, l) => match must [97] l with
      | .error e => .error e
      | .ok (_, l) => .ok (⟨23, 0, 0, n⟩, l)
def una (o : Nat) (l : List Tok) : Res (InsS × List Tok) :=
  match place l with
  | .error e => .error e
  | .ok (d, l) => .ok (⟨o, d, 0, 0⟩, l)
def ifS (blk : Blk) (ln : Nat) (l : List Tok) (many : Nat) : Res (StS × List Tok × Nat) :=
  match cond l with
  | .error e => .error e
  | .ok (c, l) => match blk l many with
    | .error e => .error e
    | .ok (b, l, many) =>
      if (hd l).s = [101, 108, 115, 101] then
        match blk l.tail many with
        | .error e => .error e
        | .ok (e, l, many) => .ok (⟨2, i0, c, b, e, ln⟩, l, many)
      else .ok (⟨2, i0, c, b, .nil, ln⟩, l, many)
def doS (blk : Blk) (ln : Nat) (l : List Tok) (many : Nat) : Res (StS × List Tok × Nat) :=
  match blk l many with
  | .error e => .error e
  | .ok (b, l, many) => match must [119, 104, 105, 108, 101] l with
    | .error e => .error e
    | .ok (_, l) => match cond l with
      | .error e => .error e
      | .ok (c, l) => .ok (⟨3, i0, c, b, .nil, ln⟩, l, many)
def stmt (deep : Bool) (blk : Blk) (l : List Tok) (many : Nat) : Res (StS × List Tok × Nat) :=
  let t := hd l
  if (look bareL t.s).isSome ∨ (look unaL t.s).isSome ∨ (look firL t.s).isSome then
    if 500 < many + 1 ∨ deep = true then .error (3, t.ln)
    else match look bareL t.s with
      | some o => .ok (⟨1, ⟨o, 0, 0, 0⟩, c0, .nil, .nil, t.ln⟩, l.tail, many + 1)
      | none => match look unaL t.s with
        | some o => kStmt t (many + 1) 1 (una o l.tail)
        | none =>
          if t.s = [104, 97, 108, 116] then .ok (⟨4, i0, c0, .nil, .nil, t.ln⟩, l.tail, many + 1)
          else if t.s = [114] then kStmt t (many + 1) 1 (store l.tail)
          else if t.s = [105, 102] then ifS blk t.ln l.tail (many + 1)
          else if t.s = [100, 111] then doS blk t.ln l.tail (many + 1)
          else kStmt t (many + 1) 1 (onPlace l)
  else .error (121, t.ln)
def loopS (st : List Tok → Nat → Res (StS × List Tok × Nat)) : Nat → List Tok → Nat → Sts → Res (Sts × List Tok × Nat)
  | 0, _, _, _ => .error (0, 0)
  | f + 1, l, many, out =>
    if (hd l).s = [125] then .ok (out, l, many)
    else match st l many with
      | .error e => .error e
      | .ok (x, l, many) => loopS st f l many (out.push x)
def block (st : List Tok → Nat → Res (StS × List Tok × Nat)) : Blk := fun l many =>
  match must [123] l with
  | .error e => .error e
  | .ok (_, l) => match loopS st (l.length + 1) l many .nil with
    | .error e => .error e
    | .ok (T, l, many) => match must [125] l with
      | .error e => .error e
      | .ok (_, l) => .ok (T, l, many)
/-- A statement, d levels above the deepest. -/
def stmtD : Nat → List Tok → Nat → Res (StS × List Tok × Nat)
  | 0 => stmt true (fun _ _ => .error (0, 0))
  | d + 1 => stmt false (block (stmtD d))

/-- A part's numbers, one after another. -/
def nums : Nat → List Tok → Res (List Nat × List Tok)
  | 0, l => .ok ([], l)
  | k + 1, l => match num 65535 l with
    | .error e => .error e
    | .ok (n, l) => match nums k l with
      | .error e => .error e
      | .ok (ns, l) => .ok (n :: ns, l)
def partL : List (List Nat × Nat) := [([99, 111, 110, 115, 116], 1), ([99, 109], 2), ([105, 99, 109], 3), ([109, 97, 116, 99, 104], 4), ([97, 118, 103], 5), ([112, 97, 105, 114], 6), ([109, 105, 120], 7), ([105, 115, 115, 101], 8), ([115, 115, 101], 9)]
def partN : List Nat := [0, 1, 2, 1, 1, 3, 4, 4, 2, 3]
def mkPart (k : Nat) (minus : Bool) (v : List Nat) : PartS :=
  let x : Nat → Int := fun i => (v.getD i 0 : Nat)
  match k with
  | 1 => ⟨1, 0, 0, 0, if minus then -(x 0) else x 0, 0, 0⟩
  | 2 => ⟨2, x 0, 0, 0, 0, 0, x 1⟩
  | 3 => ⟨3, x 0, 0, 0, 0, 0, 0⟩
  | 4 => ⟨4, x 0, 0, 0, 0, 0, 0⟩
  | 5 => ⟨5, 0, x 0, x 1, x 2, 0, 0⟩
  | 6 => ⟨6, x 0, x 1, x 2, 0, x 3, 0⟩
  | 7 => ⟨7, x 0, x 1, x 2, 0, x 3, 0⟩
  | 8 => ⟨8, x 0, x 1, 0, 0, 0, 0⟩
  | _ => ⟨9, x 0, x 1, 0, 0, 0, x 2⟩
def part (l : List Tok) : Res (PartS × List Tok) :=
  match look partL (hd l).s with
  | none => .error (121, (hd l).ln)
  | some k =>
    let minus := k == 1 && decide ((hd l.tail).s = [109, 105, 110, 117, 115])
    match nums (partN.getD k 0) (if minus then l.tail.tail else l.tail) with
    | .error e => .error e
    | .ok (v, l) => .ok (mkPart k minus v, l)
def loopP : Nat → List Tok → List PartS → Res (List PartS × List Tok)
  | 0, _, _ => .error (0, 0)
  | f + 1, l, out =>
    if (hd l).s = [125] then .ok (out, l)
    else match part l with
      | .error e => .error e
      | .ok (x, l) => loopP f l (out ++ [x])
def prog (l : List Tok) : Res (Sts × List Tok) :=
  match block (stmtD 20) l 0 with
  | .error e => .error e
  | .ok (T, l, _) => .ok (T, l)
def endP (c : CfgS) (l : List Tok) : Res CfgS := if (hd l).k = 4 then .ok c else .error (121, (hd l).ln)
def postP (c : CfgS) (l : List Tok) : Res CfgS :=
  if (hd l).s = [112, 111, 115, 116] then
    match num 65535 l.tail with
    | .error e => .error e
    | .ok (ph, l) => match num 65535 l with
      | .error e => .error e
      | .ok (pm, l) => match prog l with
        | .error e => .error e
        | .ok (T, l) => endP { c with ph := ph, pm := pm, post := T, has := true } l
  else endP c l
def parseL (l : List Tok) : Res CfgS :=
  match must [109, 111, 100, 101, 108] l with
  | .error e => .error e
  | .ok (_, l) => match num 65535 l with
    | .error e => .error e
    | .ok (h, l) => match num 65535 l with
      | .error e => .error e
      | .ok (m, l) => match must [123] l with
        | .error e => .error e
        | .ok (_, l) => match loopP (l.length + 1) l [] with
          | .error e => .error e
          | .ok (ps, l) => match must [125] l with
            | .error e => .error e
            | .ok (_, l) => match must [99, 111, 100, 101] l with
              | .error e => .error e
              | .ok (_, l) => match prog l with
                | .error e => .error e
                | .ok (T, l) => postP ⟨h, m, 0, 0, ps, T, .nil, false⟩ l
def parseN (s : List Nat) : Res CfgS :=
  match lexN s with
  | .inr ln => .error (120, ln)
  | .inl l => parseL l

/-- A call's relation to what it is: behind a fault nothing is told but the fault. -/
def Rel {α : Type} (f : List Tok → Res (α × List Tok)) (l : List Tok) (b : Option Flt) (x : α) (l' : List Tok) (b' : Option Flt) : Prop :=
  match b with
  | some e => b' = some e
  | none => match f l with
    | .error e => b' = some e
    | .ok (y, l2) => b' = none ∧ x = y ∧ l' = l2
theorem Rel.bind {α β : Type} {f : List Tok → Res (α × List Tok)} {g : α → List Tok → Res (β × List Tok)} {l l1 l' : List Tok} {b b1 b' : Option Flt} {a : α} {x : β}
    (h1 : Rel f l b a l1 b1) (h2 : Rel (g a) l1 b1 x l' b') :
    Rel (fun l => match f l with
      | .error e => .error e
      | .ok (a, l) => g a l) l b x l' b' := by
  unfold Rel at h1 ⊢
  cases b with
  | some e => simp only at h1; subst h1; exact h2
  | none =>
    simp only at h1 ⊢
    cases hf : f l with
    | error e => rw [hf] at h1; simp only at h1; subst h1; exact h2
    | ok y =>
      rw [hf] at h1
      obtain ⟨rfl, rfl, rfl⟩ := h1
      exact h2
theorem Rel.ok {α : Type} {l l' : List Tok} {b : Option Flt} {f : List Tok → Res (α × List Tok)} {x : α} (h : f l = .ok (x, l')) : Rel f l b x l' b := by
  unfold Rel
  cases b with
  | some e => rfl
  | none => simp only [h]; exact ⟨trivial, trivial, trivial⟩
theorem Rel.err {α : Type} {l l' : List Tok} {b : Option Flt} {f : List Tok → Res (α × List Tok)} {x : α} {e : Flt} (h : f l = .error e) : Rel f l b x l' (b.or (some e)) := by
  unfold Rel
  cases b with
  | some e => rfl
  | none => simp only [h]; rfl
theorem Rel.of {α : Type} {F G : List Tok → Res (α × List Tok)} {l m l' : List Tok} {b b' : Option Flt} {x : α} (e : F l = G m) (h : Rel G m b x l' b') : Rel F l b x l' b' := by
  unfold Rel at *
  rw [e]; exact h
def mapR {α β : Type} (g : α → β) (f : List Tok → Res (α × List Tok)) (l : List Tok) : Res (β × List Tok) := match f l with
  | .error e => .error e
  | .ok (a, l) => .ok (g a, l)
def bindR {α β : Type} (f : List Tok → Res (α × List Tok)) (g : α → List Tok → Res (β × List Tok)) (l : List Tok) : Res (β × List Tok) := match f l with
  | .error e => .error e
  | .ok (a, l) => g a l
theorem Rel.bindR {α β : Type} {f : List Tok → Res (α × List Tok)} {g : α → List Tok → Res (β × List Tok)} {l l1 l' : List Tok} {b b1 b' : Option Flt} {a : α} {x : β}
    (h1 : Rel f l b a l1 b1) (h2 : Rel (g a) l1 b1 x l' b') : Rel (bindR f g) l b x l' b' :=
  Rel.of (m := l) (by unfold Go.Proofs.Ythmpagehmfillaa.bindR; rcases f l with e | ⟨y, z⟩ <;> rfl) (Rel.bind h1 h2)
theorem Rel.map {α β : Type} {f : List Tok → Res (α × List Tok)} {g : α → β} {l l' : List Tok} {b b' : Option Flt} {a : α} (h : Rel f l b a l' b') :
    Rel (mapR g f) l b (g a) l' b' :=
  Rel.of (m := l) (by unfold mapR; rcases f l with e | ⟨y, z⟩ <;> rfl) (Rel.bind (g := fun a l => .ok (g a, l)) h (.ok rfl))
theorem rel_onPlace {l l1 l' : List Tok} {b b1 b' : Option Flt} {d : Nat} {x : InsS} (h1 : Rel place l b d l1 b1) (h2 : Rel (onP2 d) l1 b1 x l' b') : Rel onPlace l b x l' b' :=
  Rel.of (m := l) (by unfold onPlace; rcases place l with e | ⟨y, z⟩ <;> rfl) (Rel.bind h1 h2)
section
variable {d o : Nat} {l : List Tok}
theorem op_inc (h : (hd l).s = [43, 43]) : onP2 d l = .ok (⟨3, d, 0, 0⟩, l.tail) := by unfold onP2; rw [if_pos h]
theorem op_dec (h : (hd l).s = [45, 45]) : onP2 d l = .ok (⟨4, d, 0, 0⟩, l.tail) := by unfold onP2; rw [if_neg (by rw [h]; decide), if_pos h]
theorem op_op (h : look opsL (hd l).s = some o) (h0 : d = 0) : onP2 d l = mapR (fun x : Nat × Nat => (⟨o, 0, x.1, x.2⟩ : InsS)) operand l.tail := by
  unfold onP2
  rw [if_neg (by intro e; rw [e, show look opsL _ = none by decide] at h; cases h), if_neg (by intro e; rw [e, show look opsL _ = none by decide] at h; cases h), if_pos ⟨by rw [h]; rfl, h0⟩, h]
  unfold mapR
  rcases operand l.tail with e | ⟨y, z⟩ <;> rfl
theorem op_eq (h : (hd l).s = [61]) : onP2 d l = if (hd l.tail).k = 2 then (match num 255 l.tail with
      | .error e => .error e
      | .ok (n, l) => .ok (⟨2, d, 0, n⟩, l))
    else if (hd l.tail).s = [114] ∧ d ≤ 3 then (match num 255 l.tail.tail with
      | .error e => .error e
      | .ok (n, l) => .ok (⟨22, d, 0, n⟩, l))
    else match place l.tail with
      | .error e => .error e
      | .ok (s, l) => .ok (⟨1, d, s, 0⟩, l) := by
  unfold onP2
  rw [if_neg (by rw [h]; decide), if_neg (by rw [h]; decide), if_neg (by rw [h]; intro e; exact absurd e.1 (by decide)), if_pos h]
theorem op_num (h : (hd l).s = [61]) (hk : (hd l.tail).k = 2) : onP2 d l = mapR (fun n : Nat => (⟨2, d, 0, n⟩ : InsS)) (num 255) l.tail := by
  rw [op_eq h, if_pos hk]
  unfold mapR
  rcases num 255 l.tail with e | ⟨y, z⟩ <;> rfl
theorem op_load (h : (hd l).s = [61]) (hk : (hd l.tail).k ≠ 2) (hr : (hd l.tail).s = [114]) (hd3 : d ≤ 3) : onP2 d l = mapR (fun n : Nat => (⟨22, d, 0, n⟩ : InsS)) (num 255) l.tail.tail := by
  rw [op_eq h, if_neg hk, if_pos ⟨hr, hd3⟩]
  unfold mapR
  rcases num 255 l.tail.tail with e | ⟨y, z⟩ <;> rfl
theorem op_set (h : (hd l).s = [61]) (hk : (hd l.tail).k ≠ 2) (hr : ¬ ((hd l.tail).s = [114] ∧ d ≤ 3)) : onP2 d l = mapR (fun s : Nat => (⟨1, d, s, 0⟩ : InsS)) place l.tail := by
  rw [op_eq h, if_neg hk, if_neg hr]
  unfold mapR
  rcases place l.tail with e | ⟨y, z⟩ <;> rfl
theorem op_err (h1 : (hd l).s ≠ [43, 43]) (h2 : (hd l).s ≠ [45, 45]) (h3 : ¬ ((look opsL (hd l).s).isSome ∧ d = 0)) (h4 : (hd l).s ≠ [61]) : onP2 d l = .error (121, (hd l).ln) := by
  unfold onP2
  rw [if_neg h1, if_neg h2, if_neg h3, if_neg h4]
end
/-- What a token may be. -/
def TokOk (t : Tok) : Prop :=
  (∀ c ∈ t.s, c < 256) ∧ t.n ≤ 65535 ∧ t.ln ≤ 20000 ∧
  ((t.k = 1 ∧ t.n = 0 ∧ t.s ≠ [] ∧ ∀ c ∈ t.s, letN c = true) ∨ (t.k = 2 ∧ t.s = []) ∨ (t.k = 3 ∧ t.n = 0 ∧ t.s ∈ signsN) ∨ (t.k = 4 ∧ t.s = [] ∧ t.n = 0))
/-- A list of tokens that ends. -/
def TL (l : List Tok) : Prop := (∀ t ∈ l, TokOk t) ∧ ∃ m ln, l = m ++ [⟨4, [], 0, ln⟩] ∧ ∀ t ∈ m, t.k ≠ 4
theorem TL.ne {l : List Tok} (h : TL l) : l ≠ [] := by obtain ⟨_, m, ln, rfl, _⟩ := h; simp
theorem TL.hd_mem {l : List Tok} (h : TL l) : hd l ∈ l := by
  cases l with
  | nil => exact absurd rfl h.ne
  | cons a r => exact List.mem_cons_self ..
theorem TL.hd_ok {l : List Tok} (h : TL l) : TokOk (hd l) := h.1 _ h.hd_mem
theorem TL.tail {l : List Tok} (h : TL l) (hk : (hd l).k ≠ 4) : TL l.tail ∧ l.tail.length + 1 = l.length ∧ l.length ≠ 1 := by
  obtain ⟨h1, m, ln, rfl, h2⟩ := h
  cases m with
  | nil => exact absurd rfl hk
  | cons a m => exact ⟨⟨fun t ht => h1 t (List.mem_of_mem_tail ht), m, ln, rfl, fun t ht => h2 t (List.mem_cons_of_mem _ ht)⟩, by simp, by simp⟩
theorem TL.last {l : List Tok} (h : TL l) (hk : (hd l).k = 4) : l.length = 1 := by
  obtain ⟨h1, m, ln, rfl, h2⟩ := h
  cases m with
  | nil => rfl
  | cons a m => exact absurd hk (h2 a (List.mem_cons_self ..))
/-- A word or a sign stands ahead: it is not the end. -/
theorem TL.hd_s {l : List Tok} (h : TL l) (hs : (hd l).s ≠ []) : (hd l).k ≠ 4 ∧ (hd l).k ≠ 2 ∧ (hd l).n = 0 := by
  obtain ⟨_, _, _, h | h | h | h⟩ := h.hd_ok
  · exact ⟨by rw [h.1]; decide, by rw [h.1]; decide, h.2.1⟩
  · exact absurd h.2 hs
  · exact ⟨by rw [h.1]; decide, by rw [h.1]; decide, h.2.1⟩
  · exact absurd h.2.1 hs
theorem TL.hd_num {l : List Tok} (h : TL l) (hs : (hd l).k = 2) : (hd l).k ≠ 4 ∧ (hd l).s = [] := by
  refine ⟨by rw [hs]; decide, ?_⟩
  obtain ⟨_, _, _, h | h | h | h⟩ := h.hd_ok
  · rw [hs] at h; exact absurd h.1 (by decide)
  · exact h.2
  · rw [hs] at h; exact absurd h.1 (by decide)
  · exact h.2.1
end Go.Proofs.Ythmpagehmfillaa
