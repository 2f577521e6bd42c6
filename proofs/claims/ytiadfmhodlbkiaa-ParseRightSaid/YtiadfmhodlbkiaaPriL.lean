/-
  LEXING A TEXT whose blanks are said as remarks and line ends: the tokens are the same, but for lines. Plain. Conditions: none.
-/
import Derived.Test.YtiadfmhodlbkiaaPriE
namespace Go.Proofs.Ytiadfmhodlbkiaa
set_option linter.unusedSimpArgs false
set_option linter.unusedVariables false
def rk (r : Bool) (c : Nat) : Bool := decide (c = 35) || (r && decide (c ≠ 10))
/-- The text said anew. -/
def tr : Bool → List Nat → List Nat
  | _, [] => []
  | r, c :: t => (if c = 32 ∧ rk r c = false then [32, 35, 32, 123, 32, 120, 10] else [c]) ++ tr (rk r c) t
theorem tr_plain {c : Nat} (t : List Nat) (h1 : c ≠ 32) (h2 : c ≠ 35) : tr false (c :: t) = c :: tr false t := by
  have : rk false c = false := by unfold rk; simp [h2]
  rw [tr, if_neg (fun h => h1 h.1), this]
  rfl
theorem tr_blank (t : List Nat) : tr false (32 :: t) = 32 :: 35 :: 32 :: 123 :: 32 :: 120 :: 10 :: tr false t := by
  rw [tr, if_pos ⟨rfl, rfl⟩]
  rfl
theorem tr_mark (t : List Nat) : tr false (35 :: t) = 35 :: tr true t := by
  rw [tr, if_neg (by intro h; exact absurd h.1 (by decide))]
  rfl
theorem tr_in {c : Nat} (t : List Nat) (h : c ≠ 10) : tr true (c :: t) = c :: tr true t := by
  have : rk true c = true := by unfold rk; simp [h]
  rw [tr, this, if_neg (by intro h; cases h.2)]
  rfl
theorem tr_out (t : List Nat) : tr true (10 :: t) = 10 :: tr false t := by
  rw [tr, if_neg (by intro h; exact absurd h.1 (by decide))]
  rfl
theorem tr_rem : ∀ (t : List Nat), wl nlN (tr true t) = wl nlN t ∧ (tr true t).drop (wl nlN t) = tr false (t.drop (wl nlN t))
  | [] => ⟨rfl, rfl⟩
  | c :: t => by
    by_cases h : c = 10
    · subst h
      rw [tr_out]
      refine ⟨by simp [wl, nlN], ?_⟩
      rw [show wl nlN (10 :: t) = 0 by simp [wl, nlN], List.drop_zero, List.drop_zero, tr_plain t (by decide) (by decide)]
    · obtain ⟨h1, h2⟩ := tr_rem t
      have hn : nlN c = true := by unfold nlN; simp [h]
      have e : ∀ s, wl nlN (c :: s) = wl nlN s + 1 := fun s => by simp [wl, List.takeWhile_cons, hn]
      rw [tr_in t h, e, e, h1]
      exact ⟨rfl, by simpa using h2⟩
/-- What a text begins with. -/
theorem tr_wl {p : Nat → Bool} (h32 : p 32 = false) (h35 : p 35 = false) : ∀ (l : List Nat), wl p (tr false l) = wl p l ∧ (tr false l).take (wl p l) = l.take (wl p l) ∧ (tr false l).drop (wl p l) = tr false (l.drop (wl p l))
  | [] => ⟨rfl, rfl, rfl⟩
  | c :: t => by
    by_cases hp : p c = true
    · have h1 : c ≠ 32 := by rintro rfl; rw [h32] at hp; cases hp
      have h2 : c ≠ 35 := by rintro rfl; rw [h35] at hp; cases hp
      obtain ⟨a, b, d⟩ := tr_wl h32 h35 t
      have e : ∀ s, wl p (c :: s) = wl p s + 1 := fun s => by simp [wl, List.takeWhile_cons, hp]
      rw [tr_plain t h1 h2, e, e, a]
      exact ⟨rfl, by simpa using b, by simpa using d⟩
    · have e : ∀ s, wl p (c :: s) = 0 := fun s => by simp [wl, List.takeWhile_cons, hp]
      rw [e]
      refine ⟨?_, rfl, rfl⟩
      by_cases h1 : c = 32
      · subst h1; rw [tr_blank]; exact e _
      · by_cases h2 : c = 35
        · subst h2; rw [tr_mark]; exact e _
        · rw [tr_plain t h1 h2]; exact e _
theorem tr_pre : ∀ (x l : List Nat), (∀ c ∈ x, c ≠ 32 ∧ c ≠ 35) → x.isPrefixOf (tr false l) = x.isPrefixOf l ∧ (x.isPrefixOf l = true → (tr false l).drop x.length = tr false (l.drop x.length))
  | [], l, _ => ⟨by simp, fun _ => rfl⟩
  | a :: x, [], _ => ⟨rfl, fun h => by cases h⟩
  | a :: x, c :: t, h => by
    have ha := h a (List.mem_cons_self ..)
    by_cases hac : a = c
    · subst hac
      rw [tr_plain t ha.1 ha.2]
      obtain ⟨h1, h2⟩ := tr_pre x t (fun c hc => h c (List.mem_cons_of_mem _ hc))
      simp only [List.isPrefixOf, beq_self_eq_true, Bool.true_and, List.length_cons, List.drop_succ_cons]
      exact ⟨h1, h2⟩
    · have e : ∀ s, (a :: x).isPrefixOf (c :: s) = false := fun s => by simp [List.isPrefixOf, hac]
      rw [e]
      refine ⟨?_, fun h => by cases h⟩
      by_cases h1 : c = 32
      · subst h1; rw [tr_blank]; exact e _
      · by_cases h2 : c = 35
        · subst h2; rw [tr_mark]; exact e _
        · rw [tr_plain t h1 h2]; exact e _
theorem signs_clean : ∀ x ∈ signsN, ∀ c ∈ x, c ≠ 32 ∧ c ≠ 35 := by decide
theorem find_same {α : Type} {p q : α → Bool} : ∀ (L : List α), (∀ x ∈ L, p x = q x) → L.find? p = L.find? q
  | [], _ => rfl
  | a :: L, h => by
    rw [List.find?_cons, List.find?_cons, h a (List.mem_cons_self ..), find_same L (fun x hx => h x (List.mem_cons_of_mem _ hx))]
theorem tr_sgn (l : List Nat) : sgnN (tr false l) = sgnN l := find_same _ (fun x hx => (tr_pre x l (signs_clean x hx)).1)
theorem tr_one (l : List Nat) : oneN (tr false l) = oneN l ∧ ∀ t n, oneN l = some (t, n) → (tr false l).drop n = tr false (l.drop n) := by
  obtain ⟨a1, a2, a3⟩ := tr_wl (p := letN) (by decide) (by decide) l
  obtain ⟨b1, b2, b3⟩ := tr_wl (p := digN) (by decide) (by decide) l
  constructor
  · unfold oneN
    rw [a1, a2, b1, b2, tr_sgn]
  · intro t n h
    unfold oneN at h
    split at h
    · simp only [Option.some.injEq, Prod.mk.injEq] at h
      rw [← h.2]; exact a3
    · split at h
      · split at h
        · cases h
        · simp only [Option.some.injEq, Prod.mk.injEq] at h
          rw [← h.2]; exact b3
      · split at h
        · rename_i x hx
          simp only [Option.some.injEq, Prod.mk.injEq] at h
          obtain ⟨h1, h2⟩ := sgn_mem hx
          rw [← h.2]
          exact (tr_pre x l (signs_clean x h1)).2 h2
        · cases h
theorem nl_app (l m : List Tok) : nl (l ++ m) = nl l ++ nl m := List.map_append ..
theorem nl_inj {l m : List Tok} {t : Tok} {a b : Nat} (h : nl l = nl m) : nl (l ++ [{ t with ln := a }]) = nl (m ++ [{ t with ln := b }]) := by
  rw [nl_app, nl_app, h]; rfl
theorem tr_len (l : List Nat) (r : Bool) : l.length ≤ (tr r l).length := by
  induction l generalizing r with
  | nil => simp [tr]
  | cons c t ih =>
    rw [tr, List.length_append, List.length_cons]
    have := ih (rk r c)
    split <;> simp <;> omega
theorem lexF_tr : ∀ (f : Nat) (l : List Nat) (ln : Nat) (out r : List Tok), lexF f l ln out = .inl r → l.length < f →
    ∀ (f' ln' : Nat) (out' : List Tok), nl out' = nl out → (tr false l).length < f' → ∃ r', lexF f' (tr false l) ln' out' = .inl r' ∧ nl r' = nl r
  | 0, _, _, _, _, _, h => absurd h (Nat.not_lt_zero _)
  | f + 1, l, ln, out, r, h, hf => by
    intro f' ln' out' ho hf'
    cases f' with
    | zero => exact absurd hf' (Nat.not_lt_zero _)
    | succ f' =>
      cases l with
      | nil =>
        simp only [lexF, Sum.inl.injEq] at h
        subst h
        exact ⟨out' ++ [⟨4, [], 0, ln'⟩], rfl, nl_inj (t := ⟨4, [], 0, 0⟩) ho⟩
      | cons c t =>
        simp only [List.length_cons] at hf
        by_cases h10 : c = 10
        · subst h10
          have e : lexF (f + 1) (10 :: t) ln out = lexF f t (ln + 1) out := by simp [lexF]
          rw [e] at h
          rw [tr_plain t (by decide) (by decide)] at hf' ⊢
          have e : lexF (f' + 1) (10 :: tr false t) ln' out' = lexF f' (tr false t) (ln' + 1) out' := by simp [lexF]
          rw [e]
          exact lexF_tr f t _ out r h (by omega) f' _ out' ho (by simp at hf'; omega)
        by_cases h32 : c = 32
        · subst h32
          have e : lexF (f + 1) (32 :: t) ln out = lexF f t ln out := by simp [lexF]
          rw [e] at h
          rw [tr_blank] at hf' ⊢
          simp only [List.length_cons] at hf'
          match f', hf' with
          | g + 2, hf' =>
            have e : lexF (g + 2 + 1) (32 :: 35 :: 32 :: 123 :: 32 :: 120 :: 10 :: tr false t) ln' out' = lexF g (tr false t) (ln' + 1) out' := by
              simp [lexF, wl, nlN]
            rw [e]
            exact lexF_tr f t _ out r h (by omega) g _ out' ho (by omega)
        by_cases h35 : c = 35
        · subst h35
          have e : lexF (f + 1) (35 :: t) ln out = lexF f ((35 :: t).drop (wl nlN (35 :: t))) ln out := by simp [lexF]
          rw [e] at h
          have e1 : ∀ s, wl nlN (35 :: s) = wl nlN s + 1 := fun s => by simp [wl, nlN]
          rw [e1, List.drop_succ_cons] at h
          obtain ⟨hr1, hr2⟩ := tr_rem t
          have ht : (tr true t).length < f' := by rw [tr_mark] at hf'; simp at hf'; omega
          rw [tr_mark]
          have e : lexF (f' + 1) (35 :: tr true t) ln' out' = lexF f' ((35 :: tr true t).drop (wl nlN (35 :: tr true t))) ln' out' := by simp [lexF]
          rw [e, e1, List.drop_succ_cons, hr1, hr2]
          have hd : (t.drop (wl nlN t)).length ≤ t.length := by rw [List.length_drop]; omega
          have hd2 : (tr false (t.drop (wl nlN t))).length ≤ (tr true t).length := by rw [← hr2, List.length_drop]; omega
          exact lexF_tr f _ _ out r h (by omega) f' _ out' ho (by omega)
        by_cases hw : c = 9 ∨ c = 13
        · have e : ∀ g s a b, lexF (g + 1) (c :: s) a b = lexF g s a b := fun g s a b => by rcases hw with rfl | rfl <;> simp [lexF]
          rw [e] at h
          rw [tr_plain t h32 h35] at hf' ⊢
          rw [e]
          exact lexF_tr f t _ out r h (by omega) f' _ out' ho (by simp at hf'; omega)
        · have e : ∀ g s a b, lexF (g + 1) (c :: s) a b = match oneN (c :: s) with
              | none => .inr a
              | some (t, n) => lexF g ((c :: s).drop n) a (b ++ [{ t with ln := a }]) := fun g s a b => by
            rw [lexF, if_neg h10, if_neg (by intro h; rcases h with h | h; exact h32 h; exact hw h), if_neg h35]
            rcases oneN (c :: s) with _ | ⟨t, n⟩ <;> rfl
          rw [e] at h
          obtain ⟨t1, t2⟩ := tr_one (c :: t)
          have t3 := t1
          rw [tr_plain t h32 h35] at hf' t3 ⊢
          rw [e, t3]
          cases hq : oneN (c :: t) with
          | none => rw [hq] at h; cases h
          | some q =>
            obtain ⟨tk, n⟩ := q
            rw [hq] at h
            simp only at h ⊢
            have hn := oneN_len hq
            have h2 := t2 tk n hq
            rw [tr_plain t h32 h35] at h2
            rw [h2]
            have hl2 : (tr false ((c :: t).drop n)).length + 1 ≤ (c :: tr false t).length := by rw [← h2, List.length_drop]; simp at hn ⊢; omega
            refine lexF_tr f _ _ _ r h (by rw [List.length_drop]; simp at hn ⊢; omega) f' _ _ (nl_inj ho) (by omega)
theorem lexN_tr {l : List Nat} {r : List Tok} (h : lexN l = .inl r) : ∃ r', lexN (tr false l) = .inl r' ∧ nl r' = nl r :=
  lexF_tr _ l 1 [] r h (Nat.lt_succ_self _) _ 1 [] rfl (Nat.lt_succ_self _)
end Go.Proofs.Ytiadfmhodlbkiaa
