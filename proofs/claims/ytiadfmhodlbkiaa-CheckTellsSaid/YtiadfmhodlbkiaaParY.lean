/-
  WHAT LEXING GIVES is a list of tokens that ends, as the parser wants it. Plain. Conditions: the text's size.
  WHAT parse.Parse COMES TO for any text. Conditions: none.
-/
import Derived.Test.YtiadfmhodlbkiaaLexSpec
import Derived.Test.YtiadfmhodlbkiaaParSpec
import Derived.Test.YtiadfmhodlbkiaaParX3
namespace Go.Proofs.Ytiadfmhodlbkiaa
open Go.RowKit
set_option linter.unusedSimpArgs false
set_option linter.unusedVariables false
theorem take_wl_all {p : Nat → Bool} {l : List Nat} : ∀ c ∈ l.take (wl p l), p c = true := by
  have e : l.take (wl p l) = l.takeWhile p := by
    unfold wl
    exact (List.prefix_iff_eq_take.1 (List.takeWhile_prefix p)).symm
  rw [e]
  intro c hc
  exact List.all_eq_true.1 (List.all_takeWhile) c hc
theorem letN_lt {c : Nat} (h : letN c = true) : c < 256 := by
  unfold letN at h
  simp only [Bool.and_eq_true, decide_eq_true_eq] at h
  omega
theorem oneN_ok {l : List Nat} {t : Tok} {n ln : Nat} (h : oneN l = some (t, n)) (hln : ln ≤ 20000) : TokOk { t with ln := ln } ∧ t.k ≠ 4 := by
  unfold oneN at h
  split at h
  · rename_i h0
    simp only [Option.some.injEq, Prod.mk.injEq] at h
    obtain ⟨rfl, rfl⟩ := h
    have ha := take_wl_all (p := letN) (l := l)
    refine ⟨⟨fun c hc => letN_lt (ha c hc), Nat.zero_le _, hln, .inl ⟨rfl, rfl, ?_, ha⟩⟩, by simp⟩
    intro e
    have := congrArg List.length e
    simp only [List.length_take, List.length_nil] at this
    have := wl_le letN l
    omega
  · split at h
    · split at h
      · cases h
      · simp only [Option.some.injEq, Prod.mk.injEq] at h
        obtain ⟨rfl, rfl⟩ := h
        exact ⟨⟨fun c hc => absurd hc (by simp), by show numN _ ≤ 65535; omega, hln, .inr (.inl ⟨rfl, rfl⟩)⟩, by simp⟩
    · split at h
      · rename_i x hx
        simp only [Option.some.injEq, Prod.mk.injEq] at h
        obtain ⟨rfl, rfl⟩ := h
        obtain ⟨h1, h2⟩ := sgn_mem hx
        exact ⟨⟨fun c hc => signs_lt x h1 c hc, Nat.zero_le _, hln, .inr (.inr (.inl ⟨rfl, rfl, h1⟩))⟩, by simp⟩
      · cases h
theorem lexF_TL : ∀ (f : Nat) (l : List Nat) (ln : Nat) (out r : List Tok), lexF f l ln out = .inl r → ln + l.length ≤ 20000 → (∀ t ∈ out, TokOk t ∧ t.k ≠ 4) → TL r ∧ r.length ≤ out.length + l.length + 1 := by
  have fin : ∀ (ln n : Nat) (out : List Tok), ln ≤ 20000 → (∀ t ∈ out, TokOk t ∧ t.k ≠ 4) → TL (out ++ [⟨4, [], 0, ln⟩]) ∧ (out ++ [(⟨4, [], 0, ln⟩ : Tok)]).length ≤ out.length + n + 1 := by
    intro ln n out hln ho
    refine ⟨⟨fun t ht => ?_, out, ln, rfl, fun t ht => (ho t ht).2⟩, by rw [List.length_append]; show out.length + 1 ≤ _; omega⟩
    rcases List.mem_append.1 ht with h | h
    · exact (ho t h).1
    · simp only [List.mem_singleton] at h
      subst h
      exact ⟨fun c hc => absurd hc (by simp), Nat.zero_le _, hln, .inr (.inr (.inr ⟨rfl, rfl, rfl⟩))⟩
  intro f
  induction f with
  | zero =>
    intro l ln out r h hn ho
    simp only [lexF, Sum.inl.injEq] at h
    subst h
    exact fin ln _ out (by omega) ho
  | succ f ih =>
    intro l ln out r h hn ho
    cases l with
    | nil =>
      simp only [lexF, Sum.inl.injEq] at h
      subst h
      exact fin ln _ out (by simp at hn; omega) ho
    | cons c m =>
      simp only [List.length_cons] at hn ⊢
      simp only [lexF] at h
      split at h
      · have := ih m (ln + 1) out r h (by omega) ho
        exact ⟨this.1, by have := this.2; omega⟩
      · split at h
        · have := ih m ln out r h (by omega) ho
          exact ⟨this.1, by have := this.2; omega⟩
        · split at h
          · have hd : (List.drop (wl nlN (c :: m)) (c :: m)).length ≤ m.length + 1 := by rw [List.length_drop]; simp; 
            have := ih _ ln out r h (by omega) ho
            exact ⟨this.1, by have := this.2; omega⟩
          · split at h
            · cases h
            · rename_i t n ho1
              have hl := oneN_len ho1
              have hd : (List.drop n (c :: m)).length + 1 ≤ m.length + 1 := by rw [List.length_drop]; simp at hl ⊢; omega
              have hk := oneN_ok (ln := ln) ho1 (by omega)
              have := ih _ ln _ r h (by omega) (fun t' ht => by
                rcases List.mem_append.1 ht with h' | h'
                · exact ho t' h'
                · simp only [List.mem_singleton] at h'
                  subst h'
                  exact hk)
              refine ⟨this.1, ?_⟩
              have h2 := this.2
              simp only [List.length_append, List.length_singleton] at h2
              omega
theorem lexN_TL {s : ByteArray} {l : List Tok} (h : lexN (strB s) = .inl l) (hs : s.size ≤ 16384) : TL l ∧ l.length ≤ 20000 := by
  have := lexF_TL _ _ _ _ _ (show lexF ((strB s).length + 1) (strB s) 1 [] = .inl l from h) (by rw [strB_length]; omega) (fun t ht => absurd ht (by simp))
  rw [strB_length] at this
  refine ⟨this.1, ?_⟩
  have h2 := this.2
  simp at h2
  omega
end Go.Proofs.Ytiadfmhodlbkiaa
namespace Go.Proofs.Ytiadfmhodlbkiaa
open Go.RowKit
set_option linter.unusedSimpArgs false
set_option linter.unusedVariables false
/-- What a text says, or its fault. -/
def parseT (s : ByteArray) : Res CfgS := if 16384 < s.size then .error (3, 0) else match lexN (strB s) with
  | .inr n => .error (120, n)
  | .inl l => parseL l
theorem parse_any (s : ByteArray) (w : World) : Calls Try.prog 7 #[.string s] w (ParPost (parseT s) w) := by
  by_cases hs : 16384 < s.size
  · have e : parseT s = .error (3, 0) := by unfold parseT; rw [if_pos hs]
    rw [e]
    exact parse_bad s w 3 0 (by decide) (fun W => tokens_long s W hs)
  · cases hl : lexN (strB s) with
    | inr n =>
      have e : parseT s = .error (120, n) := by unfold parseT; rw [if_neg hs, hl]
      rw [e]
      refine parse_bad s w 120 n (by decide) (fun W => (tokens_any s W (by omega)).mono fun e w' h => ?_)
      rw [hl] at h
      exact h
    | inl l =>
      have e : parseT s = parseL l := by unfold parseT; rw [if_neg hs, hl]
      rw [e]
      obtain ⟨h1, h2⟩ := lexN_TL hl (by omega)
      exact parse_good (by omega) hl h1 h2
theorem parse_ok {s : ByteArray} {c : CfgS} {w : World} (h : parseT s = .ok c) : Calls Try.prog 7 #[.string s] w fun e w' => ∃ vp vc vq, e = .returned (.tuple #[.agg (cfgA c.h c.m c.ph c.pm vp vc vq c.has), .agg #[.int .i64 0, .int .i64 0]]) ∧ PrT w' (fun k => w.heap.size ≤ k) vp c.parts ∧ Tr w' (fun k => w.heap.size ≤ k) vc c.code ∧ Tr w' (fun k => w.heap.size ≤ k) vq c.post ∧ Below w.heap.size w w' :=
  (parse_any s w).mono fun e w' hp => by
    unfold ParPost at hp
    rw [h] at hp
    obtain ⟨⟨vp, vc, vq, h1, h2, h3, h4⟩, hb⟩ := hp
    exact ⟨vp, vc, vq, h1, h2, h3, h4, hb⟩
theorem parse_err {s : ByteArray} {x : Flt} {w : World} (h : parseT s = .error x) : Calls Try.prog 7 #[.string s] w fun e w' => e = .returned (.tuple #[.agg (cfgA 0 0 0 0 (.slice none 0 0) (.slice none 0 0) (.slice none 0 0) false), .agg #[.int .i64 x.1, .int .i64 x.2]]) ∧ Below w.heap.size w w' :=
  (parse_any s w).mono fun e w' hp => by
    unfold ParPost at hp
    rw [h] at hp
    exact hp
end Go.Proofs.Ytiadfmhodlbkiaa
