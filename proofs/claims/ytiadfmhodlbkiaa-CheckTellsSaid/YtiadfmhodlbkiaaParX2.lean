/-
  PARSING, on lists of tokens, as a chain of calls. Conditions: none.
-/
import Derived.Test.YtiadfmhodlbkiaaParW9
import Derived.Test.YtiadfmhodlbkiaaParP2
namespace Go.Proofs.Ytiadfmhodlbkiaa
set_option linter.unusedSimpArgs false
set_option linter.unusedVariables false
def partsR (l : List Tok) : Res (List PartS × List Tok) := loopP (l.length + 1) l []
def endR (c : CfgS) (l : List Tok) : Res (CfgS × List Tok) := if (hd l).k = 4 then .ok (c, l) else .error (121, (hd l).ln)
def postY (c : CfgS) : List Tok → Res (CfgS × List Tok) := bindR (num 65535) fun ph => bindR (num 65535) fun pm => bindR prog fun T => endR { c with ph := (ph : Nat), pm := (pm : Nat), post := T, has := true }
def postR (c : CfgS) (l : List Tok) : Res (CfgS × List Tok) := if (hd l).s = [112, 111, 115, 116] then postY c l.tail else endR c l
def parseR : List Tok → Res (CfgS × List Tok) := bindR (must [109, 111, 100, 101, 108]) fun _ => bindR (num 65535) fun h => bindR (num 65535) fun m => bindR (must [123]) fun _ => bindR partsR fun ps => bindR (must [125]) fun _ => bindR (must [99, 111, 100, 101]) fun _ =>
  bindR prog fun T => postR ⟨(h : Nat), (m : Nat), 0, 0, ps, T, .nil, false⟩
theorem endR_P (c : CfgS) (l : List Tok) : endP c l = match endR c l with
    | .error e => .error e
    | .ok (c, _) => .ok c := by
  unfold endP endR
  split <;> rfl
theorem postR_P (c : CfgS) (l : List Tok) : postP c l = match postR c l with
    | .error e => .error e
    | .ok (c, _) => .ok c := by
  unfold postP postR
  split
  · unfold postY bindR
    rcases num 65535 l.tail with e | ⟨ph, l1⟩
    · rfl
    simp only []
    rcases num 65535 l1 with e | ⟨pm, l2⟩
    · rfl
    simp only []
    rcases prog l2 with e | ⟨T, l3⟩
    · rfl
    · exact endR_P _ _
  · exact endR_P _ _
theorem parseL_R (l : List Tok) : parseL l = match parseR l with
    | .error e => .error e
    | .ok (c, _) => .ok c := by
  unfold parseL parseR bindR
  rcases must [109, 111, 100, 101, 108] l with e | ⟨_, l⟩
  · rfl
  simp only []
  rcases num 65535 l with e | ⟨h, l⟩
  · rfl
  simp only []
  rcases num 65535 l with e | ⟨m, l⟩
  · rfl
  simp only []
  rcases must [123] l with e | ⟨_, l⟩
  · rfl
  simp only []
  unfold partsR
  rcases loopP (l.length + 1) l [] with e | ⟨ps, l⟩
  · rfl
  simp only []
  rcases must [125] l with e | ⟨_, l⟩
  · rfl
  simp only []
  rcases must [99, 111, 100, 101] l with e | ⟨_, l⟩
  · rfl
  simp only []
  rcases prog l with e | ⟨T, l⟩
  · rfl
  simp only []
  exact postR_P _ _
theorem nums_le : ∀ (n : Nat) (l l' : List Tok) (v : List Nat), nums n l = .ok (v, l') → l'.length ≤ l.length
  | 0, l, l', v, h => by injection h with h; injection h with h1 h2; rw [← h2]; exact Nat.le_refl _
  | n + 1, l, l', v, h => by
    unfold nums at h
    rcases hq : num 65535 l with e | ⟨y, z⟩ <;> rw [hq] at h
    · cases h
    · simp only at h
      rcases hp : nums n z with e | ⟨y2, z2⟩ <;> rw [hp] at h
      · cases h
      · injection h with h; injection h with h1 h2
        have := num_le hq
        have := nums_le n _ _ _ hp
        rw [← h2]; omega
theorem part_lt {l l' : List Tok} {x : PartS} (h : part l = .ok (x, l')) : l'.length < l.length := by
  unfold part at h
  cases hq : look partL (hd l).s with
  | none => rw [hq] at h; cases h
  | some k =>
    rw [hq] at h
    simp only at h
    have ht := tail_lt (partL_lt hq).1
    have ht2 := @tail_le l.tail
    generalize hm : (if (k == 1 && decide ((hd l.tail).s = [109, 105, 110, 117, 115])) = true then l.tail.tail else l.tail) = m at h
    have hml : m.length ≤ l.tail.length := by rw [← hm]; split; exact ht2; exact Nat.le_refl _
    rcases hp : nums (partN.getD k 0) m with e | ⟨y, z⟩ <;> rw [hp] at h
    · cases h
    · injection h with h; injection h with h1 h2
      have := nums_le _ _ _ _ hp
      rw [← h2]; omega
theorem loopP_end {f : Nat} {l : List Tok} {out : List PartS} (h : (hd l).s = [125]) : loopP (f + 1) l out = .ok (out, l) := by unfold loopP; rw [if_pos h]
theorem loopP_go {f : Nat} {l : List Tok} {out : List PartS} (h : (hd l).s ≠ [125]) : loopP (f + 1) l out = match part l with
    | .error e => .error e
    | .ok (x, l) => loopP f l (out ++ [x]) := by
  rw [loopP, if_neg h]
  rcases part l with e | ⟨y, z⟩ <;> rfl
theorem loopP_fuel : ∀ (f g : Nat) (l : List Tok) (out : List PartS), l.length < f → l.length < g → loopP f l out = loopP g l out
  | 0, _, _, _, h, _ => absurd h (Nat.not_lt_zero _)
  | _ + 1, 0, _, _, _, h => absurd h (Nat.not_lt_zero _)
  | f + 1, g + 1, l, out, hf, hg => by
    by_cases h : (hd l).s = [125]
    · rw [loopP_end h, loopP_end h]
    · rw [loopP_go h, loopP_go h]
      rcases hq : part l with e | ⟨y, z⟩
      · rfl
      · have := part_lt hq
        exact loopP_fuel f g z _ (by omega) (by omega)
def LoopQ (R : Res (List PartS × List Tok)) (l : List Tok) (b : Option Flt) (ps : List PartS) : Prop := match b with
  | none => R = loopP (l.length + 1) l ps
  | some e => R = .error e
theorem loopQ_go {R : Res (List PartS × List Tok)} {l l' : List Tok} {b' : Option Flt} {ps : List PartS} {x : PartS} (h : LoopQ R l none ps) (hs : (hd l).s ≠ [125]) (hr : Rel part l none x l' b') : LoopQ R l' b' (ps ++ [x]) := by
  unfold LoopQ at h
  simp only at h
  rw [loopP_go hs] at h
  unfold Rel at hr
  simp only at hr
  rcases hq : part l with e | ⟨y, z⟩
  · rw [hq] at hr h
    simp only at hr h
    subst hr
    exact h
  · rw [hq] at hr h
    obtain ⟨rfl, rfl, rfl⟩ := hr
    have := part_lt hq
    show R = _
    rw [h]
    exact loopP_fuel _ _ _ _ this (by omega)
theorem parts_end {l1 l' : List Tok} {b1 b' : Option Flt} {ps : List PartS} (hJ : Sel b1 b' (LoopQ (loopP (l1.length + 1) l1 []) l' b' ps)) (hs : b' = none → (hd l').s = [125]) : Rel partsR l1 b1 ps l' b' := by
  unfold Sel at hJ
  unfold Rel
  cases b1 with
  | some e => exact hJ
  | none =>
    simp only at hJ ⊢
    unfold partsR
    unfold LoopQ at hJ
    cases b' with
    | some e => simp only at hJ; rw [hJ]
    | none =>
      simp only at hJ
      rw [hJ, loopP_end (hs rfl)]
      exact ⟨by trivial, by trivial, by trivial⟩
theorem part_len {l l' : List Tok} {b' : Option Flt} {x : PartS} (hr : Rel part l none x l' b') (e : b' = none) : l'.length < l.length := by
  subst e
  unfold Rel at hr
  simp only at hr
  rcases hq : part l with e' | ⟨y, z⟩
  · rw [hq] at hr; cases hr
  · rw [hq] at hr; obtain ⟨-, -, rfl⟩ := hr; exact part_lt hq
/-- The end of a text, or more. -/
theorem end_rel {c : CfgS} {l : List Tok} {b : Option Flt} : Rel (endR c) l b c l (if b.isNone && decide ((hd l).k ≠ 4) then some (121, (hd l).ln) else b) := by
  unfold Rel
  cases b with
  | some e => rfl
  | none =>
    unfold endR
    by_cases h : (hd l).k = 4
    · simp only [if_pos h]; simp [h]
    · simp only [if_neg h]; simp [h]
theorem post_no {c : CfgS} {l : List Tok} {b b' : Option Flt} {l' : List Tok} {x : CfgS} (hr : false = (b.isNone && decide ((hd l).s = [112, 111, 115, 116]))) (h : Rel (endR c) l b x l' b') : Rel (postR c) l b x l' b' := by
  cases b with
  | some e => exact h
  | none =>
    have : (hd l).s ≠ [112, 111, 115, 116] := by simpa using hr
    exact Rel.of (by unfold postR; rw [if_neg this]) h
theorem post_yes {c : CfgS} {l : List Tok} {b b' : Option Flt} {l' : List Tok} {x : CfgS} (hr : true = (b.isNone && decide ((hd l).s = [112, 111, 115, 116]))) (h : Rel (postY c) l.tail b x l' b') : Rel (postR c) l b x l' b' := by
  cases b with
  | some e => cases hr
  | none =>
    have : (hd l).s = [112, 111, 115, 116] := by simpa using hr
    exact Rel.of (by unfold postR; rw [if_pos this]) h
end Go.Proofs.Ytiadfmhodlbkiaa
