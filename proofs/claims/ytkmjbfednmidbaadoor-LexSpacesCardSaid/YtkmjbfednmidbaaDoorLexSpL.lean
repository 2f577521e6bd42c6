/-
  PLAIN LAWS ON LEXING: what tokens look like; tokens said with something between them are the same tokens. Conditions: none; no program in sight.
-/
import Derived.Test.YtkmjbfednmidbaaDoorLexSpec
import Derived.Lib.ItoaMem
namespace Go.Proofs.YtkmjbfednmidbaaDoor
open Go.RowKit
set_option linter.unusedSimpArgs false
set_option linter.unusedVariables false

theorem wl_here {p : Nat → Bool} {s r : List Nat} {h : Nat} (hs : ∀ x ∈ s, p x = true) (hh : p h = false) : wl p (s ++ h :: r) = s.length := by
  unfold wl
  rw [List.takeWhile_append_of_pos hs]
  simp [List.takeWhile_cons, hh]
theorem wl_zero {p : Nat → Bool} {h : Nat} {r : List Nat} (hh : p h = false) : wl p (h :: r) = 0 := by
  unfold wl
  simp [List.takeWhile_cons, hh]
theorem wl_take {p : Nat → Bool} (l : List Nat) : ∀ x ∈ l.take (wl p l), p x = true := by
  unfold wl
  induction l with
  | nil => intro x hx; simp at hx
  | cons a l ih =>
    intro x hx
    cases ha : p a with
    | false => simp [List.takeWhile_cons, ha] at hx
    | true =>
      simp [List.takeWhile_cons, ha] at hx
      rcases hx with rfl | hx
      · exact ha
      · exact ih x hx
/-- A number's digits. -/
def digS (n : Nat) : List Nat := (Lib.decDigits n).map UInt8.toNat
theorem digS_small {n : Nat} (h : n < 10) : digS n = [48 + n] := by
  unfold digS
  rw [Lib.decDigits_one h]
  simp
  omega
theorem digS_more {n : Nat} (h : ¬ n < 10) : digS n = digS (n / 10) ++ [48 + n % 10] := by
  unfold digS
  rw [Lib.decDigits, dif_neg h, List.map_append]
  simp
  omega
theorem digS_dig (n : Nat) : ∀ x ∈ digS n, digN x = true := by
  induction n using Nat.strongRecOn with
  | _ n ih =>
    intro x hx
    by_cases h : n < 10
    · rw [digS_small h] at hx
      simp at hx
      subst hx
      simp [digN]; omega
    · rw [digS_more h] at hx
      rcases List.mem_append.1 hx with hx | hx
      · exact ih (n / 10) (by omega) x hx
      · simp at hx
        subst hx
        simp [digN]; omega
theorem digS_ne (n : Nat) : digS n ≠ [] := by
  by_cases h : n < 10
  · rw [digS_small h]; simp
  · rw [digS_more h]; simp
theorem digS_len (k : Nat) : ∀ n, n < 10 ^ (k + 1) → (digS n).length ≤ k + 1 := by
  induction k with
  | zero => intro n h; rw [digS_small (by simpa using h)]; simp
  | succ k ih =>
    intro n h
    by_cases h0 : n < 10
    · rw [digS_small h0]; simp
    · rw [digS_more h0, List.length_append]
      have := ih (n / 10) (by rw [Nat.pow_succ] at h; omega)
      simp; omega
theorem digS_dec (n : Nat) : decN 0 (digS n) = n := by
  induction n using Nat.strongRecOn with
  | _ n ih =>
    by_cases h : n < 10
    · rw [digS_small h]; simp [decN]
    · rw [digS_more h, decN_snoc, ih (n / 10) (by omega)]; omega
theorem digS_num {n : Nat} (h : n < 65536) : numN (digS n) = n := by
  unfold numN
  rw [if_neg (by have := digS_len 4 n (by omega); omega), digS_dec]

structure Good (t : Tok) : Prop where
  of : (t.k = 1 ∧ t.s ≠ [] ∧ (∀ x ∈ t.s, letN x = true) ∧ t.n = 0) ∨ (t.k = 2 ∧ t.s = [] ∧ t.n < 65536) ∨ (t.k = 3 ∧ t.s ∈ signsN ∧ t.n = 0)
def linesOk : Nat → List Tok → Prop
  | _, [] => True
  | a, t :: r => a ≤ t.ln ∧ linesOk t.ln r
def tokS (t : Tok) : List Nat := if t.k = 2 then digS t.n else t.s
/-- What is said of tokens. -/
def saidN (l : List Tok) (b : List Nat) : List Nat := l.flatMap fun t => if t.k = 4 then [] else tokS t ++ b
theorem oneN_good {l : List Nat} {t : Tok} {n : Nat} (h : oneN l = some (t, n)) (ln : Nat) : Good { t with ln := ln } := by
  unfold oneN at h
  split at h
  · rename_i h0
    simp only [Option.some.injEq, Prod.mk.injEq] at h
    obtain ⟨rfl, rfl⟩ := h
    refine ⟨.inl ⟨rfl, ?_, wl_take l, rfl⟩⟩
    intro e
    have e2 : (l.take (wl letN l)).length = 0 := by rw [show l.take (wl letN l) = [] from e]; rfl
    have := wl_le letN l
    rw [List.length_take] at e2
    omega
  · split at h
    · rename_i h0
      split at h
      · cases h
      · rename_i h1
        simp only [Option.some.injEq, Prod.mk.injEq] at h
        obtain ⟨rfl, rfl⟩ := h
        exact ⟨.inr (.inl ⟨rfl, rfl, by simp at h1 ⊢; omega⟩)⟩
    · split at h
      · rename_i x hx
        simp only [Option.some.injEq, Prod.mk.injEq] at h
        obtain ⟨rfl, rfl⟩ := h
        exact ⟨.inr (.inr ⟨rfl, (sgn_mem hx).1, rfl⟩)⟩
      · cases h
theorem lexF_good : ∀ (f : Nat) (l : List Nat) (ln : Nat) (out L : List Tok), lexF f l ln out = .inl L → ∃ M ln', L = out ++ (M ++ [⟨4, [], 0, ln'⟩]) ∧ (∀ t ∈ M, Good t) ∧ linesOk ln (M ++ [⟨4, [], 0, ln'⟩]) := by
  intro f
  induction f with
  | zero =>
    intro l ln out L h
    simp only [lexF, Sum.inl.injEq] at h
    exact ⟨[], ln, by rw [← h]; rfl, by simp, Nat.le_refl _, trivial⟩
  | succ f ih =>
    intro l ln out L h
    have mono : ∀ {a b : Nat} {l : List Tok}, a ≤ b → linesOk b l → linesOk a l := by
      intro a b l hab hl
      cases l with
      | nil => trivial
      | cons t r => exact ⟨Nat.le_trans hab hl.1, hl.2⟩
    cases l with
    | nil =>
      simp only [lexF, Sum.inl.injEq] at h
      exact ⟨[], ln, by rw [← h]; rfl, by simp, Nat.le_refl _, trivial⟩
    | cons c r =>
      simp only [lexF] at h
      split at h
      · obtain ⟨M, ln', h1, h2, h3⟩ := ih _ _ _ _ h
        exact ⟨M, ln', h1, h2, mono (by omega) h3⟩
      · split at h
        · exact ih _ _ _ _ h
        · split at h
          · exact ih _ _ _ _ h
          · split at h
            · cases h
            · rename_i t n hone
              obtain ⟨M, ln', h1, h2, h3⟩ := ih _ _ _ _ h
              refine ⟨{ t with ln := ln } :: M, ln', by rw [h1]; simp, ?_, Nat.le_refl _, h3⟩
              intro x hx
              rcases List.mem_cons.1 hx with rfl | hx
              · exact oneN_good hone ln
              · exact h2 x hx
theorem lexF_err : ∀ (f : Nat) (l : List Nat) (ln : Nat) (out : List Tok) (k : Nat), lexF f l ln out = .inr k → ln ≤ k := by
  intro f
  induction f with
  | zero => intro l ln out k h; simp [lexF] at h
  | succ f ih =>
    intro l ln out k h
    cases l with
    | nil => simp [lexF] at h
    | cons c r =>
      simp only [lexF] at h
      split at h
      · have := ih _ _ _ _ h; omega
      · split at h
        · exact ih _ _ _ _ h
        · split at h
          · exact ih _ _ _ _ h
          · split at h
            · simp only [Sum.inr.injEq] at h; omega
            · exact ih _ _ _ _ h

/-- What may stand right behind a token. -/
def Sep (h : Nat) : Prop := letN h = false ∧ digN h = false ∧ ∀ x ∈ signsN, h ∉ x
theorem prefix_sep {h : Nat} {r : List Nat} : ∀ {y x : List Nat}, h ∉ y → y.isPrefixOf (x ++ h :: r) = y.isPrefixOf x := by
  intro y
  induction y with
  | nil => intro x _; simp
  | cons a y ih =>
    intro x hy
    cases x with
    | nil =>
      have : ¬ a = h := by rintro rfl; exact hy (by simp)
      simp [List.isPrefixOf, this]
    | cons b x =>
      simp only [List.cons_append, List.isPrefixOf]
      rw [ih (fun e => hy (by simp [e]))]
theorem sgn_sep {h : Nat} {r x : List Nat} (hh : ∀ y ∈ signsN, h ∉ y) : sgnN (x ++ h :: r) = sgnN x := by
  unfold sgnN
  have key : ∀ L : List (List Nat), (∀ y ∈ L, h ∉ y) → L.find? (fun y => y.isPrefixOf (x ++ h :: r)) = L.find? (fun y => y.isPrefixOf x) := by
    intro L
    induction L with
    | nil => intro _; rfl
    | cons a L ih =>
      intro hL
      simp only [List.find?_cons]
      rw [prefix_sep (hL a (by simp)), ih (fun y hy => hL y (by simp [hy]))]
  exact key signsN hh
theorem sgn_self : ∀ x ∈ signsN, sgnN x = some x := by decide
theorem sgn_head : ∀ x ∈ signsN, letN (nth x 0) = false ∧ digN (nth x 0) = false ∧ x ≠ [] := by decide
theorem sgn_first : ∀ x ∈ signsN, nth x 0 ≠ 10 ∧ nth x 0 ≠ 32 ∧ nth x 0 ≠ 9 ∧ nth x 0 ≠ 13 ∧ nth x 0 ≠ 35 := by decide
theorem let_first {c : Nat} (h : letN c = true) : c ≠ 10 ∧ c ≠ 32 ∧ c ≠ 9 ∧ c ≠ 13 ∧ c ≠ 35 := by
  simp [letN] at h; omega
theorem dig_first {c : Nat} (h : digN c = true) : c ≠ 10 ∧ c ≠ 32 ∧ c ≠ 9 ∧ c ≠ 13 ∧ c ≠ 35 ∧ letN c = false := by
  simp [digN] at h; simp [letN]; omega
/-- A token's text, something behind it: the token. -/
theorem one_of {t : Tok} (ht : Good t) {h : Nat} (hh : Sep h) (r : List Nat) : ∃ c s, tokS t = c :: s ∧ (c ≠ 10 ∧ c ≠ 32 ∧ c ≠ 9 ∧ c ≠ 13 ∧ c ≠ 35) ∧ oneN (tokS t ++ h :: r) = some (⟨t.k, t.s, t.n, 0⟩, (tokS t).length) := by
  obtain ⟨k, s, n, ln⟩ := t
  obtain ⟨hl, hd, hs⟩ := hh
  rcases ht.of with ⟨h1, h2, h3, h4⟩ | ⟨h1, h2, h3⟩ | ⟨h1, h2, h3⟩
  · have h1 : k = 1 := h1
    have h4 : n = 0 := h4
    subst h1; subst h4
    have e : tokS ⟨1, s, 0, ln⟩ = s := rfl
    rw [e]
    cases s with
    | nil => exact absurd rfl h2
    | cons c s =>
      refine ⟨c, s, rfl, let_first (h3 c (by simp)), ?_⟩
      unfold oneN
      rw [wl_here h3 hl, if_pos (by simp), List.take_left' rfl]
  · have h1 : k = 2 := h1
    have h2 : s = [] := h2
    have h3 : n < 65536 := h3
    subst h1; subst h2
    have e : tokS ⟨2, [], n, ln⟩ = digS n := rfl
    rw [e]
    have hne := digS_ne n
    have hdg := digS_dig n
    have hnum := digS_num h3
    generalize digS n = D at *
    cases D with
    | nil => exact absurd rfl hne
    | cons c s =>
      have hc := dig_first (hdg c (by simp))
      refine ⟨c, s, rfl, ⟨hc.1, hc.2.1, hc.2.2.1, hc.2.2.2.1, hc.2.2.2.2.1⟩, ?_⟩
      unfold oneN
      rw [show wl letN (c :: s ++ h :: r) = 0 from wl_zero hc.2.2.2.2.2, if_neg (by omega), wl_here hdg hd, if_pos (by simp), List.take_left' rfl, hnum, if_neg (by omega)]
  · have h1 : k = 3 := h1
    have h2 : s ∈ signsN := h2
    have h3 : n = 0 := h3
    subst h1; subst h3
    have e : tokS ⟨3, s, 0, ln⟩ = s := rfl
    rw [e]
    have hf := sgn_first s h2
    have hx := sgn_head s h2
    have hz := sgn_self s h2
    have hq := sgn_sep (r := r) (x := s) hs
    rw [hz] at hq
    cases s with
    | nil => exact absurd rfl hx.2.2
    | cons c s =>
      refine ⟨c, s, rfl, hf, ?_⟩
      unfold oneN
      rw [show wl letN (c :: s ++ h :: r) = 0 from wl_zero hx.1, if_neg (by omega), show wl digN (c :: s ++ h :: r) = 0 from wl_zero hx.2.1, if_neg (by omega), hq]
/-- What stands between tokens: it begins with a separator, and is skipped. -/
structure Btw (b : List Nat) : Prop where
  head : ∃ h s, b = h :: s ∧ Sep h
  skip : ∀ (f : Nat) (r : List Nat) (ln : Nat) (out : List Tok), (b ++ r).length < f → ∃ f' ln', lexF f (b ++ r) ln out = lexF f' r ln' out ∧ r.length < f'
def sameT (a b : Tok) : Prop := a.k = b.k ∧ a.s = b.s ∧ a.n = b.n
def sameTs : List Tok → List Tok → Prop
  | [], [] => True
  | a :: l, b :: m => sameT a b ∧ sameTs l m
  | _, _ => False
theorem lex_said {b : List Nat} (hb : Btw b) : ∀ (M : List Tok), (∀ t ∈ M, Good t) → ∀ (f ln : Nat) (out : List Tok), (saidN M b).length < f → ∃ N ln', lexF f (saidN M b) ln out = .inl (out ++ (N ++ [⟨4, [], 0, ln'⟩])) ∧ sameTs M N := by
  intro M
  induction M with
  | nil =>
    intro _ f ln out hf
    cases f with
    | zero => simp at hf
    | succ f => exact ⟨[], ln, rfl, trivial⟩
  | cons t M ih =>
    intro hM f ln out hf
    have ht := hM t (by simp)
    have hk : t.k ≠ 4 := by rcases ht.of with h | h | h <;> (rw [h.1]; decide)
    have es : saidN (t :: M) b = tokS t ++ (b ++ saidN M b) := by
      show (if t.k = 4 then [] else tokS t ++ b) ++ saidN M b = _
      rw [if_neg hk, List.append_assoc]
    rw [es] at hf ⊢
    obtain ⟨h, s, hbe, hsep⟩ := hb.head
    have hbr : b ++ saidN M b = h :: (s ++ saidN M b) := by rw [hbe]; rfl
    obtain ⟨c, u, hcu, hne, hone⟩ := one_of ht hsep (s ++ saidN M b)
    rw [← hbr] at hone
    cases f with
    | zero => simp at hf
    | succ f =>
      have step : lexF (f + 1) (tokS t ++ (b ++ saidN M b)) ln out = lexF f (b ++ saidN M b) ln (out ++ [⟨t.k, t.s, t.n, ln⟩]) := by
        have e2 : tokS t ++ (b ++ saidN M b) = c :: (u ++ (b ++ saidN M b)) := by rw [hcu]; rfl
        rw [e2, lexF]
        rw [if_neg hne.1, if_neg (by omega), if_neg hne.2.2.2.2, ← e2, hone]
        simp only
        rw [List.drop_left' rfl]
      rw [step]
      have hlt : (b ++ saidN M b).length < f := by
        rw [List.length_append, hcu] at hf
        simp at hf ⊢
        omega
      obtain ⟨f', ln', e3, hf'⟩ := hb.skip f (saidN M b) ln (out ++ [⟨t.k, t.s, t.n, ln⟩]) hlt
      rw [e3]
      obtain ⟨N, ln2, e4, hN⟩ := ih (fun x hx => hM x (by simp [hx])) f' ln' (out ++ [⟨t.k, t.s, t.n, ln⟩]) hf'
      exact ⟨⟨t.k, t.s, t.n, ln⟩ :: N, ln2, by rw [e4]; simp, ⟨rfl, rfl, rfl⟩, hN⟩
theorem sep_32 : Sep 32 := ⟨rfl, rfl, by decide⟩
theorem sep_10 : Sep 10 := ⟨rfl, rfl, by decide⟩
theorem sep_9 : Sep 9 := ⟨rfl, rfl, by decide⟩
theorem btw_1 : Btw [32] := ⟨⟨32, [], rfl, sep_32⟩, fun f r ln out hf => by
  match f, hf with
  | f + 1, hf => exact ⟨f, ln, rfl, by simp at hf; omega⟩⟩
theorem btw_2 : Btw [10] := ⟨⟨10, [], rfl, sep_10⟩, fun f r ln out hf => by
  match f, hf with
  | f + 1, hf => exact ⟨f, ln + 1, rfl, by simp at hf; omega⟩⟩
theorem btw_4 : Btw [9, 13] := ⟨⟨9, [13], rfl, sep_9⟩, fun f r ln out hf => by
  match f, hf with
  | f + 2, hf => exact ⟨f, ln, rfl, by simp at hf; omega⟩⟩
theorem btw_3 : Btw [32, 35, 32, 97, 32, 125, 10] := ⟨⟨32, [35, 32, 97, 32, 125, 10], rfl, sep_32⟩, fun f r ln out hf => by
  match f, hf with
  | f + 3, hf =>
    refine ⟨f, ln + 1, ?_, by simp at hf; omega⟩
    show lexF (f + 2) (35 :: 32 :: 97 :: 32 :: 125 :: 10 :: r) ln out = _
    have e : wl nlN (35 :: 32 :: 97 :: 32 :: 125 :: 10 :: r) = 5 := by
      have := wl_here (p := nlN) (s := [35, 32, 97, 32, 125]) (h := 10) (r := r) (by decide) rfl
      exact this
    show lexF (f + 1) ((35 :: 32 :: 97 :: 32 :: 125 :: 10 :: r).drop (wl nlN (35 :: 32 :: 97 :: 32 :: 125 :: 10 :: r))) ln out = _
    rw [e]
    rfl⟩
theorem sameTs_length : ∀ {l m : List Tok}, sameTs l m → l.length = m.length := by
  intro l
  induction l with
  | nil => intro m h; cases m with
    | nil => rfl
    | cons => cases h
  | cons a l ih => intro m h; cases m with
    | nil => cases h
    | cons b m => simp [ih h.2]
theorem sameTs_get : ∀ {l m : List Tok}, sameTs l m → ∀ i (h1 : i < l.length) (h2 : i < m.length), sameT l[i] m[i] := by
  intro l
  induction l with
  | nil => intro m h i h1; simp at h1
  | cons a l ih => intro m h i h1 h2; cases m with
    | nil => cases h
    | cons b m =>
      cases i with
      | zero => exact h.1
      | succ i => exact ih h.2 i (by simpa using h1) (by simpa using h2)
theorem sameTs_snoc : ∀ {l m : List Tok} {a b : Tok}, sameTs l m → sameT a b → sameTs (l ++ [a]) (m ++ [b]) := by
  intro l
  induction l with
  | nil => intro m a b h hab; cases m with
    | nil => exact ⟨hab, trivial⟩
    | cons => cases h
  | cons x l ih => intro m a b h hab; cases m with
    | nil => cases h
    | cons y m => exact ⟨h.1, ih h.2 hab⟩
/-- Said anew, with something between: the same tokens. -/
theorem lex_again {l : List Nat} {L : List Tok} (h : lexN l = .inl L) {b : List Nat} (hb : Btw b) : ∃ N, lexN (saidN L b) = .inl N ∧ sameTs L N := by
  obtain ⟨M, ln', e1, h2, h3⟩ := lexF_good _ _ _ _ _ h
  have e1 : L = M ++ [⟨4, [], 0, ln'⟩] := e1
  have es : saidN L b = saidN M b := by rw [e1]; simp [saidN]
  obtain ⟨N, ln2, e4, hN⟩ := lex_said hb M h2 ((saidN M b).length + 1) 1 [] (Nat.lt_succ_self _)
  refine ⟨N ++ [⟨4, [], 0, ln2⟩], ?_, ?_⟩
  · rw [es]; exact e4
  · rw [e1]; exact sameTs_snoc hN ⟨rfl, rfl, rfl⟩
theorem lex_lines {l : List Nat} {L : List Tok} (h : lexN l = .inl L) : linesOk 1 L := by
  obtain ⟨M, ln', e1, h2, h3⟩ := lexF_good _ _ _ _ _ h
  have e1 : L = M ++ [⟨4, [], 0, ln'⟩] := e1
  rw [e1]; exact h3
theorem oneN_slen {l : List Nat} {t : Tok} {n : Nat} (h : oneN l = some (t, n)) : t.s.length ≤ l.length := by
  unfold oneN at h
  split at h
  · simp only [Option.some.injEq, Prod.mk.injEq] at h
    obtain ⟨rfl, rfl⟩ := h
    rw [List.length_take]; omega
  · split at h
    · split at h
      · cases h
      · simp only [Option.some.injEq, Prod.mk.injEq] at h
        obtain ⟨rfl, rfl⟩ := h
        simp
    · split at h
      · rename_i x hx
        simp only [Option.some.injEq, Prod.mk.injEq] at h
        obtain ⟨rfl, rfl⟩ := h
        exact (List.isPrefixOf_iff_prefix.1 (sgn_mem hx).2).length_le
      · cases h
theorem lexF_slen (N : Nat) : ∀ (f : Nat) (l : List Nat) (ln : Nat) (out L : List Tok), l.length ≤ N → (∀ t ∈ out, t.s.length ≤ N) → lexF f l ln out = .inl L → ∀ t ∈ L, t.s.length ≤ N := by
  have fin : ∀ (out L : List Tok) (ln : Nat), (∀ t ∈ out, t.s.length ≤ N) → out ++ [⟨4, [], 0, ln⟩] = L → ∀ t ∈ L, t.s.length ≤ N := by
    intro out L ln ho h t ht
    rw [← h] at ht
    rcases List.mem_append.1 ht with ht | ht
    · exact ho t ht
    · simp at ht; subst ht; simp
  intro f
  induction f with
  | zero => intro l ln out L _ ho h; simp only [lexF, Sum.inl.injEq] at h; exact fin out L ln ho h
  | succ f ih =>
    intro l ln out L hl ho h
    cases l with
    | nil => simp only [lexF, Sum.inl.injEq] at h; exact fin out L ln ho h
    | cons c r =>
      simp only [List.length_cons] at hl
      simp only [lexF] at h
      split at h
      · exact ih _ _ _ _ (by omega) ho h
      · split at h
        · exact ih _ _ _ _ (by omega) ho h
        · split at h
          · exact ih _ _ _ _ (by rw [List.length_drop, List.length_cons]; omega) ho h
          · split at h
            · cases h
            · rename_i t n hone
              refine ih _ _ _ _ (by rw [List.length_drop, List.length_cons]; omega) ?_ h
              intro x hx
              rcases List.mem_append.1 hx with hx | hx
              · exact ho x hx
              · simp at hx
                subst hx
                have := oneN_slen hone
                simp only [List.length_cons] at this
                show t.s.length ≤ N
                omega
theorem tokS_lt {t : Tok} (h : Good t) : ∀ x ∈ tokS t, x < 256 := by
  intro x hx
  unfold tokS at hx
  split at hx
  · have := digS_dig _ x hx
    simp [digN] at this; omega
  · rename_i h2
    rcases h.of with h | h | h
    · have := h.2.2.1 x hx
      simp [letN] at this; omega
    · exact absurd h.1 h2
    · exact signs_lt _ h.2.1 x hx
theorem said_lt {b : List Nat} (hb : ∀ x ∈ b, x < 256) {l : List Tok} (hl : ∀ t ∈ l, t.k = 4 ∨ Good t) : ∀ x ∈ saidN l b, x < 256 := by
  intro x hx
  unfold saidN at hx
  obtain ⟨t, ht, hx⟩ := List.mem_flatMap.1 hx
  split at hx
  · cases hx
  · rename_i h4
    rcases hl t ht with h | h
    · contradiction
    · rcases List.mem_append.1 hx with hx | hx
      · exact tokS_lt h x hx
      · exact hb x hx
theorem lex_good {l : List Nat} {L : List Tok} (h : lexN l = .inl L) : ∀ t ∈ L, t.k = 4 ∨ Good t := by
  obtain ⟨M, ln', e1, h2, h3⟩ := lexF_good _ _ _ _ _ h
  have e1 : L = M ++ [⟨4, [], 0, ln'⟩] := e1
  intro t ht
  rw [e1] at ht
  rcases List.mem_append.1 ht with ht | ht
  · exact .inr (h2 t ht)
  · simp at ht; subst ht; exact .inl rfl
end Go.Proofs.YtkmjbfednmidbaaDoor
