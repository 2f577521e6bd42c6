/-
  PARSING, on lists of tokens, second part: what the statements' parser answers case by case; each takes tokens. Conditions: none.
-/
import Derived.Test.YthmpagehmfillaaQ04
namespace Go.Proofs.Ythmpagehmfillaa
set_option linter.unusedSimpArgs false
set_option linter.unusedVariables false

/-- A call's relation to what it is, where a number of statements is counted. -/
def RelM {α : Type} (f : List Tok → Nat → Res (α × List Tok × Nat)) (l : List Tok) (many : Nat) (b : Option Flt) (x : α) (l' : List Tok) (b' : Option Flt) (many' : Nat) : Prop :=
  match b with
  | some e => b' = some e
  | none => match f l many with
    | .error e => b' = some e
    | .ok (y, l2, m2) => b' = none ∧ x = y ∧ l' = l2 ∧ many' = m2
section
variable {deep : Bool} {blk : Blk} {l m l1 l2 l3 l' : List Tok} {many m1 m2 m3 o k : Nat} {b1 b2 b3 b' : Option Flt} {i : InsS} {c : ConS} {bT eT : Sts} {s : List Nat}
theorem RelM.ok {α : Type} {f : List Tok → Nat → Res (α × List Tok × Nat)} {b : Option Flt} {x : α} (h : f l many = .ok (x, l', m1)) : RelM f l many b x l' b m1 := by
  unfold RelM
  cases b with
  | some e => rfl
  | none => simp only [h]; exact ⟨trivial, trivial, trivial, trivial⟩
theorem RelM.err {α : Type} {f : List Tok → Nat → Res (α × List Tok × Nat)} {b : Option Flt} {x : α} {e : Flt} (h : f l many = .error e) : RelM f l many b x l' (b.or (some e)) m1 := by
  unfold RelM
  cases b with
  | some e => rfl
  | none => simp only [h]; rfl
theorem kst {α : Type} {f : List Tok → Res (InsS × List Tok)} (e : stmt deep blk l many = kStmt (hd l) m1 k (f m)) (h : Rel f m none i l' b') : RelM (stmt deep blk) l many none ⟨k, i, c0, .nil, .nil, (hd l).ln⟩ l' b' m1 := by
  unfold RelM
  unfold Rel at h
  simp only [e] at h ⊢
  unfold kStmt
  rcases hf : f m with e | ⟨y, z⟩
  · rw [hf] at h; exact h
  · rw [hf] at h
    obtain ⟨h1, h2, h3⟩ := h
    exact ⟨h1, by rw [h2], h3, rfl⟩
def Known (s : List Nat) : Prop := (look bareL s).isSome ∨ (look unaL s).isSome ∨ (look firL s).isSome
theorem st_syn (h : ¬ Known (hd l).s) : stmt deep blk l many = .error (121, (hd l).ln) := by
  unfold Known at h; unfold stmt; simp only []; rw [if_neg h]
theorem st_long (h : Known (hd l).s) (hl : 500 < many + 1 ∨ deep = true) : stmt deep blk l many = .error (3, (hd l).ln) := by
  unfold Known at h; unfold stmt; simp only []; rw [if_pos h, if_pos hl]
section
variable (hl : ¬ (500 < many + 1 ∨ deep = true))
include hl
theorem st_bare (h : look bareL (hd l).s = some o) : stmt deep blk l many = .ok (⟨1, ⟨o, 0, 0, 0⟩, c0, .nil, .nil, (hd l).ln⟩, l.tail, many + 1) := by
  unfold stmt; simp only []; rw [if_pos (.inl (by rw [h]; rfl)), if_neg hl, h]
theorem st_una (h0 : look bareL (hd l).s = none) (h : look unaL (hd l).s = some o) : stmt deep blk l many = kStmt (hd l) (many + 1) 1 (una o l.tail) := by
  unfold stmt; simp only []; rw [if_pos (.inr (.inl (by rw [h]; rfl))), if_neg hl, h0, h]
variable (h0 : look bareL (hd l).s = none) (h1 : look unaL (hd l).s = none) (h2 : look firL (hd l).s = some o)
include h0 h1 h2
theorem st_fir : stmt deep blk l many =
    if (hd l).s = [104, 97, 108, 116] then .ok (⟨4, i0, c0, .nil, .nil, (hd l).ln⟩, l.tail, many + 1)
    else if (hd l).s = [114] then kStmt (hd l) (many + 1) 1 (store l.tail)
    else if (hd l).s = [105, 102] then ifS blk (hd l).ln l.tail (many + 1)
    else if (hd l).s = [100, 111] then doS blk (hd l).ln l.tail (many + 1)
    else kStmt (hd l) (many + 1) 1 (onPlace l) := by
  unfold stmt; simp only []; rw [if_pos (.inr (.inr (by rw [h2]; rfl))), if_neg hl, h0, h1]
theorem st_halt (h : (hd l).s = [104, 97, 108, 116]) : stmt deep blk l many = .ok (⟨4, i0, c0, .nil, .nil, (hd l).ln⟩, l.tail, many + 1) := by
  rw [st_fir hl h0 h1 h2, if_pos h]
theorem st_store (h : (hd l).s = [114]) : stmt deep blk l many = kStmt (hd l) (many + 1) 1 (store l.tail) := by
  rw [st_fir hl h0 h1 h2, if_neg (by rw [h]; decide), if_pos h]
theorem st_if (h : (hd l).s = [105, 102]) : stmt deep blk l many = ifS blk (hd l).ln l.tail (many + 1) := by
  rw [st_fir hl h0 h1 h2, if_neg (by rw [h]; decide), if_neg (by rw [h]; decide), if_pos h]
theorem st_do (h : (hd l).s = [100, 111]) : stmt deep blk l many = doS blk (hd l).ln l.tail (many + 1) := by
  rw [st_fir hl h0 h1 h2, if_neg (by rw [h]; decide), if_neg (by rw [h]; decide), if_neg (by rw [h]; decide), if_pos h]
theorem st_on (q1 : (hd l).s ≠ [104, 97, 108, 116]) (q2 : (hd l).s ≠ [114]) (q3 : (hd l).s ≠ [105, 102]) (q4 : (hd l).s ≠ [100, 111]) : stmt deep blk l many = kStmt (hd l) (many + 1) 1 (onPlace l) := by
  rw [st_fir hl h0 h1 h2, if_neg q1, if_neg q2, if_neg q3, if_neg q4]
end
/-- 'if', with what was asked of it. -/
theorem if_no {ln : Nat} (e : stmt deep blk l many = ifS blk ln m m1) (hc : Rel cond m none c l1 b1) (hb : RelM blk l1 m1 b1 bT l2 b2 m2) (hr : false = (b2.isNone && decide ((hd l2).s = [101, 108, 115, 101]))) :
    RelM (stmt deep blk) l many none ⟨2, i0, c, bT, .nil, ln⟩ l2 b2 m2 := by
  unfold RelM
  simp only [e]
  unfold ifS
  unfold Rel at hc
  simp only at hc
  rcases hq : cond m with e | ⟨y, z⟩
  · rw [hq] at hc; subst hc; exact hb
  · rw [hq] at hc
    obtain ⟨rfl, rfl, rfl⟩ := hc
    unfold RelM at hb
    simp only at hb ⊢
    rcases hp : blk l1 m1 with e | ⟨T, z2, n2⟩
    · rw [hp] at hb; exact hb
    · rw [hp] at hb
      obtain ⟨rfl, rfl, rfl, rfl⟩ := hb
      have : (hd l2).s ≠ [101, 108, 115, 101] := by simpa using hr
      simp only
      rw [if_neg this]
      exact ⟨by trivial, by trivial, by trivial, by trivial⟩
theorem if_yes {ln : Nat} (e : stmt deep blk l many = ifS blk ln m m1) (hc : Rel cond m none c l1 b1) (hb : RelM blk l1 m1 b1 bT l2 b2 m2) (hr : true = (b2.isNone && decide ((hd l2).s = [101, 108, 115, 101]))) (he : RelM blk l2.tail m2 b2 eT l3 b3 m3) :
    RelM (stmt deep blk) l many none ⟨2, i0, c, bT, eT, ln⟩ l3 b3 m3 := by
  unfold RelM
  simp only [e]
  unfold ifS
  unfold Rel at hc
  simp only at hc
  rcases hq : cond m with e | ⟨y, z⟩
  · rw [hq] at hc; subst hc
    unfold RelM at hb; simp only at hb; subst hb; cases hr
  · rw [hq] at hc
    obtain ⟨rfl, rfl, rfl⟩ := hc
    unfold RelM at hb
    simp only at hb ⊢
    rcases hp : blk l1 m1 with e | ⟨T, z2, n2⟩
    · rw [hp] at hb; simp only at hb; subst hb; cases hr
    · rw [hp] at hb
      obtain ⟨rfl, rfl, rfl, rfl⟩ := hb
      have : (hd l2).s = [101, 108, 115, 101] := by simpa using hr
      simp only
      rw [if_pos this]
      unfold RelM at he
      simp only at he
      rcases hs : blk l2.tail m2 with e | ⟨T2, z3, n3⟩
      · rw [hs] at he; exact he
      · rw [hs] at he
        obtain ⟨rfl, rfl, rfl, rfl⟩ := he
        exact ⟨by trivial, by trivial, by trivial, by trivial⟩
theorem do_any {ln : Nat} (e : stmt deep blk l many = doS blk ln m m1) (hb : RelM blk m m1 none bT l1 b1 m2) (hw : Rel (must [119, 104, 105, 108, 101]) l1 b1 () l2 b2) (hc : Rel cond l2 b2 c l3 b3) :
    RelM (stmt deep blk) l many none ⟨3, i0, c, bT, .nil, ln⟩ l3 b3 m2 := by
  unfold RelM
  simp only [e]
  unfold doS
  unfold RelM at hb
  simp only at hb
  rcases hq : blk m m1 with e | ⟨T, z, n⟩
  · rw [hq] at hb; subst hb
    unfold Rel at hw; simp only at hw; subst hw; exact hc
  · rw [hq] at hb
    obtain ⟨rfl, rfl, rfl, rfl⟩ := hb
    unfold Rel at hw
    simp only at hw ⊢
    rcases hp : must [119, 104, 105, 108, 101] l1 with e | ⟨u, z2⟩
    · rw [hp] at hw; simp only at hw; subst hw; exact hc
    · rw [hp] at hw
      obtain ⟨rfl, -, rfl⟩ := hw
      unfold Rel at hc
      simp only at hc ⊢
      rcases hs : cond l2 with e | ⟨y, z3⟩
      · rw [hs] at hc; exact hc
      · rw [hs] at hc
        obtain ⟨rfl, rfl, rfl⟩ := hc
        exact ⟨by trivial, by trivial, by trivial, by trivial⟩
end
/-- Each takes tokens, or none. -/
theorem tail_le {l : List Tok} : l.tail.length ≤ l.length := by rw [List.length_tail]; omega
theorem tail_lt {l : List Tok} (h : (hd l).s ≠ []) : l.tail.length < l.length := by
  cases l with
  | nil => exact absurd rfl h
  | cons a r => simp
theorem must_le {s : List Nat} {l l' : List Tok} {u : Unit} (h : must s l = .ok (u, l')) : l'.length ≤ l.length := by
  unfold must at h
  split at h
  · injection h with h
    injection h with h1 h2
    rw [← h2]; exact tail_le
  · cases h
theorem num_le {m n : Nat} {l l' : List Tok} (h : num m l = .ok (n, l')) : l'.length ≤ l.length := by
  unfold num at h
  split at h
  · split at h
    · cases h
    · injection h with h
      injection h with h1 h2
      rw [← h2]; exact tail_le
  · cases h
theorem place_lt {n : Nat} {l l' : List Tok} (h : place l = .ok (n, l')) : l'.length < l.length := by
  unfold place at h
  split at h
  · rename_i h1
    have := tail_lt (l := l) (by rw [h1]; decide)
    split at h
    · injection h with h; injection h with h2 h3; rw [← h3]; exact Nat.lt_of_le_of_lt tail_le this
    · cases h
  · split at h
    · rename_i n h1
      have : (hd l).s ≠ [] := by intro e; rw [e, show look regs [] = none by decide] at h1; cases h1
      injection h with h; injection h with h2 h3; rw [← h3]; exact tail_lt this
    · cases h
theorem operand_le {n : Nat × Nat} {l l' : List Tok} (h : operand l = .ok (n, l')) : l'.length ≤ l.length := by
  unfold operand at h
  split at h
  · rcases hq : num 255 l with e | ⟨y, z⟩ <;> rw [hq] at h
    · cases h
    · injection h with h; injection h with h2 h3; rw [← h3]; exact num_le hq
  · rcases hq : place l with e | ⟨y, z⟩ <;> rw [hq] at h
    · cases h
    · injection h with h; injection h with h2 h3; rw [← h3]; exact Nat.le_of_lt (place_lt hq)
theorem cond_le {c : ConS} {l l' : List Tok} (h : cond l = .ok (c, l')) : l'.length ≤ l.length := by
  unfold cond at h
  simp only at h
  generalize hm : (if decide ((hd l).s = [110, 111, 116]) = true then l.tail else l) = m at h
  have hml : m.length ≤ l.length := by rw [← hm]; split; exact tail_le; exact Nat.le_refl _
  rcases hq : must [97] m with e | ⟨y, z⟩ <;> rw [hq] at h
  · cases h
  · have := must_le hq
    simp only at h
    split at h
    · cases h
    · rcases hp : operand z.tail with e | ⟨y2, z2⟩ <;> rw [hp] at h
      · cases h
      · injection h with h; injection h with h2 h3; rw [← h3]
        have := operand_le hp
        have := @tail_le z
        (try simp only at *)
        omega
theorem onP2_le {d : Nat} {i : InsS} {l l' : List Tok} (h : onP2 d l = .ok (i, l')) : l'.length ≤ l.length := by
  have t1 := @tail_le l
  have t2 := @tail_le l.tail
  unfold onP2 at h
  split at h
  · injection h with h; injection h with h2 h3; rw [← h3]; exact t1
  split at h
  · injection h with h; injection h with h2 h3; rw [← h3]; exact t1
  split at h
  · rcases hq : operand l.tail with e | ⟨y, z⟩ <;> rw [hq] at h
    · cases h
    · injection h with h; injection h with h2 h3; have := operand_le hq; rw [← h3]; (try simp only at *); omega
  split at h
  · split at h
    · rcases hq : num 255 l.tail with e | ⟨y, z⟩ <;> rw [hq] at h
      · cases h
      · injection h with h; injection h with h2 h3; have := num_le hq; rw [← h3]; (try simp only at *); omega
    split at h
    · rcases hq : num 255 l.tail.tail with e | ⟨y, z⟩ <;> rw [hq] at h
      · cases h
      · injection h with h; injection h with h2 h3; have := num_le hq; rw [← h3]; (try simp only at *); omega
    · rcases hq : place l.tail with e | ⟨y, z⟩ <;> rw [hq] at h
      · cases h
      · injection h with h; injection h with h2 h3; have := place_lt hq; rw [← h3]; (try simp only at *); omega
  · cases h
theorem onPlace_lt {i : InsS} {l l' : List Tok} (h : onPlace l = .ok (i, l')) : l'.length < l.length := by
  unfold onPlace at h
  rcases hq : place l with e | ⟨y, z⟩ <;> rw [hq] at h
  · cases h
  · have := onP2_le h; have := place_lt hq; (try simp only at *); omega
theorem store_le {i : InsS} {l l' : List Tok} (h : store l = .ok (i, l')) : l'.length ≤ l.length := by
  unfold store at h
  rcases hq : num 255 l with e | ⟨y, z⟩ <;> rw [hq] at h
  · cases h
  · simp only at h
    rcases hp : must [61] z with e | ⟨y, z2⟩ <;> rw [hp] at h
    · cases h
    · simp only at h
      rcases hr : must [97] z2 with e | ⟨y, z3⟩ <;> rw [hr] at h
      · cases h
      · injection h with h; injection h with h2 h3
        have := num_le hq; have := must_le hp; have := must_le hr
        rw [← h3]; omega
theorem una_le {o : Nat} {i : InsS} {l l' : List Tok} (h : una o l = .ok (i, l')) : l'.length ≤ l.length := by
  unfold una at h
  rcases hq : place l with e | ⟨y, z⟩ <;> rw [hq] at h
  · cases h
  · injection h with h; injection h with h2 h3; have := place_lt hq; rw [← h3]; (try simp only at *); omega
def BlkLe (blk : Blk) : Prop := ∀ l m T l' m', blk l m = .ok (T, l', m') → l'.length ≤ l.length
theorem kStmt_le {f : List Tok → Res (InsS × List Tok)} {l l' m : List Tok} {n k n' : Nat} {t : Tok} {x : StS} (h : kStmt t n k (f m) = .ok (x, l', n')) (hf : ∀ i m', f m = .ok (i, m') → m'.length < l.length) : l'.length < l.length := by
  unfold kStmt at h
  rcases hq : f m with e | ⟨y, z⟩ <;> rw [hq] at h
  · cases h
  · injection h with h; injection h with h2 h3; injection h3 with h3 h4; rw [← h3]; exact hf _ _ hq
theorem stmt_lt {deep : Bool} {blk : Blk} (hb : BlkLe blk) {l l' : List Tok} {m m' : Nat} {x : StS} (h : stmt deep blk l m = .ok (x, l', m')) : l'.length < l.length := by
  by_cases hk : Known (hd l).s
  · have hs : (hd l).s ≠ [] := by
      intro e; rw [e] at hk; revert hk; unfold Known; decide
    have ht := tail_lt hs
    by_cases hl : 500 < m + 1 ∨ deep = true
    · rw [st_long hk hl] at h; cases h
    · cases h0 : look bareL (hd l).s with
      | some o =>
        rw [st_bare hl h0] at h
        injection h with h; injection h with h2 h3; injection h3 with h3 h4; rw [← h3]; exact ht
      | none =>
        cases h1 : look unaL (hd l).s with
        | some o =>
          rw [st_una hl h0 h1] at h
          exact kStmt_le h (fun i m' hq => by have := una_le hq; omega)
        | none =>
          cases h2 : look firL (hd l).s with
          | none => exfalso; unfold Known at hk; rw [h0, h1, h2] at hk; simp at hk
          | some o =>
            rw [st_fir hl h0 h1 h2] at h
            split at h
            · injection h with h; injection h with h2 h3; injection h3 with h3 h4; rw [← h3]; exact ht
            split at h
            · exact kStmt_le h (fun i m' hq => by have := store_le hq; omega)
            split at h
            · unfold ifS at h
              rcases hq : cond l.tail with e | ⟨y, z⟩ <;> rw [hq] at h
              · cases h
              · simp only at h
                rcases hp : blk z (m + 1) with e | ⟨T, z2, n2⟩ <;> rw [hp] at h
                · cases h
                · have q1 := cond_le hq
                  have q2 := hb _ _ _ _ _ hp
                  simp only at h
                  split at h
                  · rcases hr : blk z2.tail n2 with e | ⟨T2, z3, n3⟩ <;> rw [hr] at h
                    · cases h
                    · have q3 := hb _ _ _ _ _ hr
                      have := @tail_le z2
                      injection h with h; injection h with h2 h3; injection h3 with h3 h4; rw [← h3]; omega
                  · injection h with h; injection h with h2 h3; injection h3 with h3 h4; rw [← h3]; omega
            split at h
            · unfold doS at h
              rcases hp : blk l.tail (m + 1) with e | ⟨T, z2, n2⟩ <;> rw [hp] at h
              · cases h
              · have q2 := hb _ _ _ _ _ hp
                simp only at h
                rcases hq : must [119, 104, 105, 108, 101] z2 with e | ⟨y, z⟩ <;> rw [hq] at h
                · cases h
                · simp only at h
                  have q1 := must_le hq
                  rcases hr : cond z with e | ⟨y, z3⟩ <;> rw [hr] at h
                  · cases h
                  · have q3 := cond_le hr
                    injection h with h; injection h with h2 h3; injection h3 with h3 h4; rw [← h3]; omega
            · exact kStmt_le h (fun i m' hq => onPlace_lt hq)
  · rw [st_syn hk] at h; cases h
theorem loopS_le {st : List Tok → Nat → Res (StS × List Tok × Nat)} (hst : ∀ l m x l' m', st l m = .ok (x, l', m') → l'.length < l.length) : ∀ (f : Nat) (l : List Tok) (m : Nat) (out T : Sts) (l' : List Tok) (m' : Nat), loopS st f l m out = .ok (T, l', m') → l'.length ≤ l.length
  | 0, _, _, _, _, _, _, h => by cases h
  | f + 1, l, m, out, T, l', m', h => by
    unfold loopS at h
    split at h
    · injection h with h; injection h with h2 h3; injection h3 with h3 h4; rw [← h3]; exact Nat.le_refl _
    · rcases hq : st l m with e | ⟨y, z, n⟩ <;> rw [hq] at h
      · cases h
      · have := hst _ _ _ _ _ hq
        have := loopS_le hst f _ _ _ _ _ _ h
        omega
theorem block_le {st : List Tok → Nat → Res (StS × List Tok × Nat)} (hst : ∀ l m x l' m', st l m = .ok (x, l', m') → l'.length < l.length) : BlkLe (block st) := by
  intro l m T l' m' h
  unfold block at h
  rcases hq : must [123] l with e | ⟨y, z⟩ <;> rw [hq] at h
  · cases h
  · simp only at h
    rcases hp : loopS st (z.length + 1) z m .nil with e | ⟨T2, z2, n2⟩ <;> rw [hp] at h
    · cases h
    · simp only at h
      rcases hr : must [125] z2 with e | ⟨y, z3⟩ <;> rw [hr] at h
      · cases h
      · have q1 := must_le hq
        have q2 := loopS_le hst _ _ _ _ _ _ _ hp
        have q3 := must_le hr
        injection h with h; injection h with h2 h3; injection h3 with h3 h4; rw [← h3]; omega
theorem stmtD_lt : ∀ (d : Nat) (l : List Tok) (m : Nat) (x : StS) (l' : List Tok) (m' : Nat), stmtD d l m = .ok (x, l', m') → l'.length < l.length
  | 0, _, _, _, _, _, h => stmt_lt (fun _ _ _ _ _ h => by cases h) h
  | d + 1, _, _, _, _, _, h => stmt_lt (block_le (stmtD_lt d)) h
/-- One round of the loop, and its end. -/
theorem loopS_end {st : List Tok → Nat → Res (StS × List Tok × Nat)} {f m : Nat} {l : List Tok} {out : Sts} (h : (hd l).s = [125]) : loopS st (f + 1) l m out = .ok (out, l, m) := by unfold loopS; rw [if_pos h]
theorem loopS_go {st : List Tok → Nat → Res (StS × List Tok × Nat)} {f m : Nat} {l : List Tok} {out : Sts} (h : (hd l).s ≠ [125]) : loopS st (f + 1) l m out = match st l m with
    | .error e => .error e
    | .ok (x, l, many) => loopS st f l many (out.push x) := by
  rw [loopS, if_neg h]
  rcases st l m with e | ⟨y, z, n⟩ <;> rfl
/-- How many tokens bound how many turns. -/
theorem loopS_fuel {st : List Tok → Nat → Res (StS × List Tok × Nat)} (hst : ∀ l m x l' m', st l m = .ok (x, l', m') → l'.length < l.length) : ∀ (f g : Nat) (l : List Tok) (m : Nat) (out : Sts), l.length < f → l.length < g → loopS st f l m out = loopS st g l m out
  | 0, _, _, _, _, h, _ => absurd h (Nat.not_lt_zero _)
  | _ + 1, 0, _, _, _, _, h => absurd h (Nat.not_lt_zero _)
  | f + 1, g + 1, l, m, out, hf, hg => by
    by_cases h : (hd l).s = [125]
    · rw [loopS_end h, loopS_end h]
    · rw [loopS_go h, loopS_go h]
      rcases hq : st l m with e | ⟨y, z, n⟩
      · rfl
      · have := hst _ _ _ _ _ hq
        exact loopS_fuel hst f g z n _ (by omega) (by omega)
end Go.Proofs.Ythmpagehmfillaa
