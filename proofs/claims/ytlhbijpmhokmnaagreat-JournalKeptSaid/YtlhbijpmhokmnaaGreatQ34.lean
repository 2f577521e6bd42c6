/-
  WHAT A JOURNAL's CALLS AND A CRASH LEAVE ON A DISK; plain laws. Conditions: none; no program in sight.
-/
import Derived.Test.YtlhbijpmhokmnaaGreatQ33
namespace Go.Proofs.YtlhbijpmhokmnaaGreat
open Go.RowKit
set_option linter.unusedSimpArgs false
set_option linter.unusedVariables false

/-- An error that is to come is one. -/
def ErrOk (p : DkS) : Prop := p.fails ≠ 0 → p.err ≠ 0
structure Same (d d' : DkS) : Prop where
  most : d'.most = d.most
  now : d'.now = d.now
  old : d'.old = d.old
  floor : d'.floor = d.floor
  ok : ErrOk d'
theorem pre_same {d : DkS} (h : ErrOk d) : Same d d.pre.2 ∧ ∀ e, d.pre.1 = some e → e ≠ 0 := by
  unfold DkS.pre
  by_cases h1 : d.down = true
  · rw [if_pos h1]
    exact ⟨⟨rfl, rfl, rfl, rfl, h⟩, fun e he => by injection he with he; omega⟩
  rw [if_neg h1]
  by_cases h2 : d.armed = 0
  · rw [if_pos h2]
    exact ⟨⟨rfl, rfl, rfl, rfl, h⟩, fun e he => by injection he with he; omega⟩
  rw [if_neg h2]
  by_cases h3 : d.fails = 0
  · rw [if_pos h3]
    exact ⟨⟨rfl, rfl, rfl, rfl, fun e => absurd h3 e⟩, fun e he => by cases he⟩
  rw [if_neg h3]
  by_cases h4 : d.fails = 1
  · rw [if_pos h4]
    exact ⟨⟨rfl, rfl, rfl, rfl, fun e => absurd rfl e⟩, fun e he => by injection he with he; rw [← he]; exact h h3⟩
  rw [if_neg h4]
  exact ⟨⟨rfl, rfl, rfl, rfl, fun e => h h3⟩, fun e he => by cases he⟩
theorem op_two {d : DkS} (h : ErrOk d) (F : DkS → Int × DkS) : (∃ d', (d.op F).1 ≠ 0 ∧ (d.op F).2 = d' ∧ Same d d') ∨ ∃ d', d.op F = F d' ∧ Same d d' := by
  obtain ⟨h1, h2⟩ := pre_same h
  unfold DkS.op
  cases hp : d.pre with
  | mk x d' =>
    rw [hp] at h1 h2
    cases x with
    | some e => exact .inl ⟨d', h2 e rfl, rfl, h1⟩
    | none => exact .inr ⟨d', rfl, h1⟩
/-- The six steps of Add. -/
def stepA (hd b cm : List Nat) : Nat → DkS → Int × DkS
  | 0, p => p.append hd
  | 2, p => p.append b
  | 4, p => p.append cm
  | _, p => p.sync
def runA (hd b cm : List Nat) : Nat → DkS → DkS
  | 0, p => p
  | k + 1, p => (stepA hd b cm k (runA hd b cm k p)).2
/-- What is behind the base then; what of it is old. -/
def tA (hd b cm : List Nat) : Nat → List Nat
  | 0 => []
  | 1 => hd
  | 2 => hd
  | 3 => hd ++ b
  | 4 => hd ++ b
  | _ => hd ++ b ++ cm
def oA (hd b cm : List Nat) : Nat → List Nat
  | 0 => []
  | 1 => []
  | 2 => hd
  | 3 => hd
  | 4 => hd ++ b
  | 5 => hd ++ b
  | _ => hd ++ b ++ cm
structure Mid (p : DkS) (m : Nat) (B t o : List Nat) : Prop where
  most : p.most = m
  now : p.now = B ++ t
  old : p.old = B ++ o
  floor : p.floor = B.length + o.length
  ok : ErrOk p
section
variable {p p' : DkS} {m : Nat} {B t o hd b cm : List Nat}
theorem Mid.same (h : Mid p m B t o) (hs : Same p p') : Mid p' m B t o := ⟨hs.most.trans h.most, hs.now.trans h.now, hs.old.trans h.old, hs.floor.trans h.floor, hs.ok⟩
theorem Mid.append (h : Mid p m B t o) (x : List Nat) (hm : B.length + t.length + x.length ≤ m) : ((p.append x).1 = 0 ∧ Mid (p.append x).2 m B (t ++ x) o) ∨ ((p.append x).1 ≠ 0 ∧ Mid (p.append x).2 m B t o) := by
  unfold DkS.append
  rcases op_two h.ok (fun d => if d.most < d.now.length + x.length then ((5 : Int), d) else (0, { d with now := d.now ++ x })) with ⟨d', h1, h2, hs⟩ | ⟨d', h1, hs⟩
  · exact .inr ⟨h1, by rw [h2]; exact h.same hs⟩
  · have h' := h.same hs
    have e : ¬ d'.most < d'.now.length + x.length := by rw [h'.most, h'.now, List.length_append]; omega
    rw [h1, if_neg e]
    exact .inl ⟨rfl, h'.most, by show d'.now ++ x = _; rw [h'.now, List.append_assoc], h'.old, h'.floor, h'.ok⟩
theorem Mid.sync (h : Mid p m B t o) : (p.sync.1 = 0 ∧ Mid p.sync.2 m B t t) ∨ (p.sync.1 ≠ 0 ∧ Mid p.sync.2 m B t o) := by
  unfold DkS.sync
  rcases op_two h.ok (fun d => ((0 : Int), { d with old := d.now, floor := d.now.length })) with ⟨d', h1, h2, hs⟩ | ⟨d', h1, hs⟩
  · exact .inr ⟨h1, by rw [h2]; exact h.same hs⟩
  · have h' := h.same hs
    rw [h1]
    exact .inl ⟨rfl, h'.most, h'.now, h'.now, by show d'.now.length = _; rw [h'.now, List.length_append], h'.ok⟩
theorem Mid.step {k : Nat} (hk : k < 6) (h : Mid p m B (tA hd b cm k) (oA hd b cm k)) (hm : B.length + (hd ++ b ++ cm).length ≤ m) :
    ((stepA hd b cm k p).1 = 0 ∧ Mid (stepA hd b cm k p).2 m B (tA hd b cm (k + 1)) (oA hd b cm (k + 1))) ∨ ((stepA hd b cm k p).1 ≠ 0 ∧ Mid (stepA hd b cm k p).2 m B (tA hd b cm k) (oA hd b cm k)) := by
  rw [List.length_append, List.length_append] at hm
  match k, hk, h with
  | 0, _, h => exact h.append hd (by show B.length + 0 + _ ≤ _; omega)
  | 1, _, h => exact h.sync
  | 2, _, h => exact h.append b (by show B.length + hd.length + _ ≤ _; omega)
  | 3, _, h => exact h.sync
  | 4, _, h => exact h.append cm (by show B.length + (hd ++ b).length + _ ≤ _; rw [List.length_append]; omega)
  | 5, _, h => exact h.sync
theorem Mid.run (h : Mid p m B [] []) (hm : B.length + (hd ++ b ++ cm).length ≤ m) : ∀ k, k ≤ 6 → (∀ i, i < k → (stepA hd b cm i (runA hd b cm i p)).1 = 0) → Mid (runA hd b cm k p) m B (tA hd b cm k) (oA hd b cm k)
  | 0, _, _ => h
  | k + 1, hk, hall => by
    have ih := Mid.run h hm k (by omega) (fun i hi => hall i (by omega))
    rcases ih.step (by omega) hm with ⟨-, h2⟩ | ⟨h1, -⟩
    · exact h2
    · exact absurd (hall k (by omega)) h1
/-- Behind a cut that was not made sure, or was not made. -/
structure Cut (p : DkS) (m : Nat) (B o : List Nat) : Prop where
  most : p.most = m
  now : p.now = B
  old : p.old = B ++ o
  floor : p.floor = B.length
  ok : ErrOk p
theorem Mid.back (h : Mid p m B t o) : ((backD p B.length).1 = 0 ∧ Mid (backD p B.length).2 m B [] []) ∨ ((backD p B.length).1 ≠ 0 ∧ (Mid (backD p B.length).2 m B t o ∨ Cut (backD p B.length).2 m B o)) := by
  unfold backD DkS.cut
  rcases op_two h.ok (fun d => ((0 : Int), { d with now := d.now.take B.length, floor := min d.floor B.length })) with ⟨d', h1, h2, hs⟩ | ⟨d', h1, hs⟩
  · rw [if_pos h1]
    exact .inr ⟨h1, .inl (by rw [h2]; exact h.same hs)⟩
  · have h' := h.same hs
    rw [h1, if_neg (by simp)]
    show ((DkS.sync { d' with now := d'.now.take B.length, floor := min d'.floor B.length }).1 = 0 ∧ _) ∨ _
    have e1 : d'.now.take B.length = B := by rw [h'.now]; exact List.take_left' rfl
    have e2 : min d'.floor B.length = B.length := by rw [h'.floor]; omega
    rw [e1, e2]
    have hc : Cut { d' with now := B, floor := B.length } m B o := ⟨h'.most, rfl, h'.old, rfl, h'.ok⟩
    revert hc
    generalize ({ d' with now := B, floor := B.length } : DkS) = q
    intro hc
    unfold DkS.sync
    rcases op_two hc.ok (fun d => ((0 : Int), { d with old := d.now, floor := d.now.length })) with ⟨q', k1, k2, ks⟩ | ⟨q', k1, ks⟩
    · exact .inr ⟨k1, .inr (by rw [k2]; exact ⟨ks.most.trans hc.most, ks.now.trans hc.now, ks.old.trans hc.old, ks.floor.trans hc.floor, ks.ok⟩)⟩
    · rw [k1]
      refine .inl ⟨rfl, ks.most.trans hc.most, ?_, ?_, ?_, ks.ok⟩
      · show q'.now = _; rw [ks.now, hc.now, List.append_nil]
      · show q'.now = _; rw [ks.now, hc.now, List.append_nil]
      · show q'.now.length = _; rw [ks.now, hc.now]; rfl
end
/-- What Add comes to. -/
def AddOut (hd b cm : List Nat) (n e0 : Nat) (p : DkS) (r : Int) (p' : DkS) (n' e' : Nat) (br : Bool) : Prop :=
  (∃ k, k < 6 ∧ (∀ i, i < k → (stepA hd b cm i (runA hd b cm i p)).1 = 0) ∧ (stepA hd b cm k (runA hd b cm k p)).1 = r ∧ r ≠ 0 ∧ p' = (backD (runA hd b cm (k + 1) p) e0).2 ∧ n' = n ∧ e' = e0 ∧ br = decide ((backD (runA hd b cm (k + 1) p) e0).1 ≠ 0)) ∨
  ((∀ i, i < 6 → (stepA hd b cm i (runA hd b cm i p)).1 = 0) ∧ r = 0 ∧ p' = runA hd b cm 6 p ∧ n' = n + 1 ∧ e' = e0 + (54 + b.length) ∧ br = false)
/-- The bytes of a journal of L. -/
def bas (L : List (List Nat)) : List Nat := txt ++ txs 1 L
theorem bas_snoc (L : List (List Nat)) (b : List Nat) : bas (L ++ [b]) = bas L ++ txL (L.length + 1) b := by
  unfold bas
  rw [txs_append, List.append_assoc]
  congr 2
  show txL (1 + L.length) b ++ [] = _
  rw [List.append_nil, Nat.add_comm]
theorem bas_length (L : List (List Nat)) : (bas L).length = ofs L L.length := by
  rw [ofs_all]; unfold bas; rw [List.length_append]; rfl
/-- A journal at rest. -/
def Rest (p : DkS) (m : Nat) (L : List (List Nat)) : Prop := Mid p m (bas L) [] []
/-- Bytes behind a base that were cut short. -/
def Torn (p : DkS) (m : Nat) (L : List (List Nat)) (b : List Nat) : Prop :=
  ∃ k, k < 6 ∧ (Mid p m (bas L) (tA (headL (L.length + 1) b.length) b (commitL (L.length + 1) (headL (L.length + 1) b.length) b) k) (oA (headL (L.length + 1) b.length) b (commitL (L.length + 1) (headL (L.length + 1) b.length) b) k) ∨
    Cut p m (bas L) (oA (headL (L.length + 1) b.length) b (commitL (L.length + 1) (headL (L.length + 1) b.length) b) k))
theorem tx_parts (k : Nat) (b : List Nat) : headL k b.length ++ b ++ commitL k (headL k b.length) b = txL k b := by unfold txL; rw [List.append_assoc]
theorem add_out {p p' : DkS} {m : Nat} {L : List (List Nat)} {b : List Nat} {r : Int} {n' e' : Nat} {br : Bool} (h : Rest p m L) (hm : (bas L).length + 54 + b.length ≤ m)
    (ho : AddOut (headL (L.length + 1) b.length) b (commitL (L.length + 1) (headL (L.length + 1) b.length) b) L.length (bas L).length p r p' n' e' br) :
    (r = 0 ∧ Rest p' m (L ++ [b]) ∧ n' = (L ++ [b]).length ∧ e' = (bas (L ++ [b])).length ∧ br = false) ∨ (r ≠ 0 ∧ n' = L.length ∧ e' = (bas L).length ∧ ((br = false ∧ Rest p' m L) ∨ (br = true ∧ Torn p' m L b))) := by
  have hm' : (bas L).length + (headL (L.length + 1) b.length ++ b ++ commitL (L.length + 1) (headL (L.length + 1) b.length) b).length ≤ m := by rw [tx_parts, txL_length]; omega
  rcases ho with ⟨k, hk, hall, h1, h2, rfl, rfl, rfl, rfl⟩ | ⟨hall, rfl, rfl, rfl, rfl, rfl⟩
  · right
    have h3 := Mid.run h hm' k (by omega) hall
    have h4 : Mid (runA (headL (L.length + 1) b.length) b (commitL (L.length + 1) (headL (L.length + 1) b.length) b) (k + 1) p) m (bas L) (tA (headL (L.length + 1) b.length) b (commitL (L.length + 1) (headL (L.length + 1) b.length) b) k) (oA (headL (L.length + 1) b.length) b (commitL (L.length + 1) (headL (L.length + 1) b.length) b) k) := by
      rcases h3.step hk hm' with ⟨q1, -⟩ | ⟨-, q2⟩
      · exact absurd (h1.symm.trans q1) h2
      · exact q2
    refine ⟨h2, rfl, rfl, ?_⟩
    rcases h4.back with ⟨q1, q2⟩ | ⟨q1, q2⟩
    · exact .inl ⟨by simp [q1], q2⟩
    · exact .inr ⟨by simp [q1], k, hk, q2⟩
  · left
    have h3 := Mid.run h hm' 6 (Nat.le_refl _) hall
    have e : tA (headL (L.length + 1) b.length) b (commitL (L.length + 1) (headL (L.length + 1) b.length) b) 6 = txL (L.length + 1) b := tx_parts _ _
    have e2 : oA (headL (L.length + 1) b.length) b (commitL (L.length + 1) (headL (L.length + 1) b.length) b) 6 = txL (L.length + 1) b := tx_parts _ _
    rw [e, e2] at h3
    refine ⟨rfl, ⟨h3.most, ?_, ?_, ?_, h3.ok⟩, by simp, by rw [bas_snoc, List.length_append, txL_length], rfl⟩
    · rw [h3.now, bas_snoc, List.append_nil]
    · rw [h3.old, bas_snoc, List.append_nil]
    · rw [h3.floor, bas_snoc, List.length_append]; rfl
/-- What a crash may leave. -/
structure CrashTo (p p' : DkS) : Prop where
  most : p'.most = p.most
  same : p'.old = p'.now
  floor : p'.floor = p'.now.length
  down : p'.down = false
  armed : p'.armed = -1
  fails : p'.fails = 0
  left : p'.now = p.old ∨ (p.floor ≤ p'.now.length ∧ p'.now.length ≤ p.now.length ∧ p'.now.take p.floor = p.now.take p.floor)
theorem CrashTo.ok {p p' : DkS} (h : CrashTo p p') : ErrOk p' := fun e => absurd h.fails e
theorem told_mk {L : List (List Nat)} {r : List Nat} (hg : ∀ x ∈ L, GoodB x) (hr : oneJ r (L.length + 1) = none) : Told (bas L ++ r) L r := ⟨by unfold bas; rw [List.append_assoc], hg, by rw [Nat.add_comm]; exact hr⟩
theorem one_nil (k : Nat) : oneJ [] k = none := one_short (by simp)
theorem told_bas {L : List (List Nat)} (hg : ∀ x ∈ L, GoodB x) : Told (bas L) L [] := by
  have := told_mk hg (one_nil (L.length + 1))
  rwa [List.append_nil] at this
/-- A floor behind a base, and bytes that are no longer. -/
theorem left_form {B t o y : List Nat} (hot : o <+: t) (h1 : B.length + o.length ≤ y.length) (h2 : y.length ≤ (B ++ t).length) (h3 : y.take (B.length + o.length) = (B ++ t).take (B.length + o.length)) : ∃ x, y = B ++ x ∧ o <+: x ∧ x.length ≤ t.length := by
  obtain ⟨s, rfl⟩ := hot
  have e : (B ++ (o ++ s)).take (B.length + o.length) = B ++ o := by
    rw [← List.append_assoc]
    exact List.take_left' (by rw [List.length_append])
  rw [e] at h3
  refine ⟨o ++ y.drop (B.length + o.length), ?_, List.prefix_append _ _, ?_⟩
  · rw [← List.append_assoc, ← h3, List.take_append_drop]
  · rw [List.length_append, List.length_drop]
    rw [List.length_append] at h2
    omega
theorem oA_tA (hd b cm : List Nat) : ∀ k, k < 6 → oA hd b cm k <+: tA hd b cm k
  | 0, _ => List.prefix_rfl
  | 1, _ => List.nil_prefix
  | 2, _ => List.prefix_rfl
  | 3, _ => List.prefix_append _ _
  | 4, _ => List.prefix_rfl
  | 5, _ => List.prefix_append _ _
section
variable {p p' : DkS} {m : Nat} {L : List (List Nat)} {b : List Nat}
theorem one_old {k : Nat} (j : Nat) (hg : GoodB b) : ∀ k, k < 6 → oneJ (oA (headL j b.length) b (commitL j (headL j b.length) b) k) j = none
  | 0, _ => one_nil _
  | 1, _ => one_nil _
  | 2, _ => one_short (by show (headL j b.length).length ≤ 54; rw [headL_length]; omega)
  | 3, _ => one_short (by show (headL j b.length).length ≤ 54; rw [headL_length]; omega)
  | 4, _ => one_head hg (List.prefix_append _ _) (by show (headL j b.length ++ b).length < _; rw [List.length_append, headL_length]; omega)
  | 5, _ => one_head hg (List.prefix_append _ _) (by show (headL j b.length ++ b).length < _; rw [List.length_append, headL_length]; omega)
theorem one_left {x : List Nat} (j : Nat) (hg : GoodB b) : ∀ k, k < 6 → oA (headL j b.length) b (commitL j (headL j b.length) b) k <+: x → x.length ≤ (tA (headL j b.length) b (commitL j (headL j b.length) b) k).length → oneJ x j = none ∨ x = txL j b := by
  have l1 : (headL j b.length).length = 29 := headL_length _ _
  have l2 : (headL j b.length ++ b).length = 29 + b.length := by rw [List.length_append, l1]
  have l3 : (headL j b.length ++ b ++ commitL j (headL j b.length) b).length = 54 + b.length := by rw [tx_parts, txL_length]
  intro k hk h1 h2
  match k, hk, h1, h2 with
  | 0, _, _, h2 => exact .inl (one_short (Nat.le_trans h2 (Nat.zero_le _)))
  | 1, _, _, h2 =>
    have h2 : x.length ≤ (headL j b.length).length := h2
    exact .inl (one_short (by omega))
  | 2, _, _, h2 =>
    have h2 : x.length ≤ (headL j b.length).length := h2
    exact .inl (one_short (by omega))
  | 3, _, h1, h2 =>
    have h2 : x.length ≤ (headL j b.length ++ b).length := h2
    exact .inl (one_head hg h1 (by omega))
  | 4, _, h1, h2 =>
    have h2 : x.length ≤ (headL j b.length ++ b).length := h2
    exact .inl (one_head hg ((List.prefix_append _ _).trans h1) (by omega))
  | 5, _, h1, h2 =>
    have h2 : x.length ≤ (headL j b.length ++ b ++ commitL j (headL j b.length) b).length := h2
    rcases one_body hg h1 (by omega) with h | ⟨_, h⟩
    · exact .inl h
    · exact .inr h
/-- Both what is and what is old tell the same, and all of it stands. -/
structure Both2 (p : DkS) (m : Nat) (L : List (List Nat)) : Prop where
  most : p.most = m
  now : ∃ r, Told p.now L r
  old : ∃ r, Told p.old L r
  floor : p.floor = p.now.length
  ok : ErrOk p
theorem crash_rest (h : Rest p m L) (hg : ∀ x ∈ L, GoodB x) (hc : CrashTo p p') : Rest p' m L := by
  have e : p'.now = bas L := by
    rcases hc.left with h1 | ⟨h1, h2, h3⟩
    · rw [h1, h.old, List.append_nil]
    · have hn := h.now
      rw [List.append_nil] at hn
      have hf : p.floor = (bas L).length := h.floor
      rw [hf, hn, List.take_of_length_le (Nat.le_refl _)] at h3
      rw [hn] at h2
      rw [List.take_of_length_le h2] at h3
      exact h3
  exact ⟨hc.most.trans h.most, by rw [e, List.append_nil], by rw [hc.same, e, List.append_nil], by rw [hc.floor, e]; rfl, hc.ok⟩
theorem crash_torn (h : Torn p m L b) (hg : ∀ x ∈ L, GoodB x) (hb : GoodB b) (hc : CrashTo p p') : Both2 p' m L ∨ Both2 p' m (L ++ [b]) := by
  obtain ⟨k, hk, h⟩ := h
  have key : ∀ x, p'.now = bas L ++ x → (oneJ x (L.length + 1) = none ∨ x = txL (L.length + 1) b) → p.most = m → Both2 p' m L ∨ Both2 p' m (L ++ [b]) := by
    intro x hx h1 hm
    rcases h1 with h1 | rfl
    · left
      have ht : Told p'.now L x := by rw [hx]; exact told_mk hg h1
      exact ⟨hc.most.trans hm, ⟨x, ht⟩, ⟨x, by rw [hc.same]; exact ht⟩, hc.floor, hc.ok⟩
    · right
      have ht : Told p'.now (L ++ [b]) [] := by
        rw [hx, ← bas_snoc]
        refine told_bas fun y hy => ?_
        rcases List.mem_append.1 hy with hy | hy
        · exact hg y hy
        · rw [List.mem_singleton.1 hy]; exact hb
      exact ⟨hc.most.trans hm, ⟨_, ht⟩, ⟨_, by rw [hc.same]; exact ht⟩, hc.floor, hc.ok⟩
  rcases h with h | h
  · rcases hc.left with h1 | ⟨h1, h2, h3⟩
    · exact key _ (h1.trans h.old) (.inl (one_old (k := k) _ hb k hk)) h.most
    · rw [h.floor, h.now] at h3
      rw [h.floor] at h1
      rw [h.now] at h2
      obtain ⟨x, hx, q1, q2⟩ := left_form (oA_tA _ _ _ k hk) h1 h2 h3
      exact key x hx (one_left _ hb k hk q1 q2) h.most
  · rcases hc.left with h1 | ⟨h1, h2, h3⟩
    · exact key _ (h1.trans h.old) (.inl (one_old (k := k) _ hb k hk)) h.most
    · refine key [] ?_ (.inl (one_nil _)) h.most
      rw [h.floor, h.now, List.take_of_length_le (Nat.le_refl _)] at h3
      rw [h.now] at h2
      rw [List.take_of_length_le h2] at h3
      rw [h3, List.append_nil]
theorem Rest.both (h : Rest p m L) (hg : ∀ x ∈ L, GoodB x) : Both2 p m L := by
  have hn := h.now
  have ho := h.old
  rw [List.append_nil] at hn ho
  exact ⟨h.most, ⟨[], by rw [hn]; exact told_bas hg⟩, ⟨[], by rw [ho]; exact told_bas hg⟩, by rw [h.floor, hn]; rfl, h.ok⟩
theorem Told.bas' {x : List Nat} {r : List Nat} (h : Told x L r) : x = bas L ++ r := by rw [h.eq]; unfold bas; rw [List.append_assoc]
/-- An opening, whatever it comes to. -/
theorem Both2.pre (h : Both2 p m L) : Both2 p.pre.2 m L := by
  obtain ⟨hs, -⟩ := pre_same h.ok
  exact ⟨hs.most.trans h.most, by rw [hs.now]; exact h.now, by rw [hs.old]; exact h.old, by rw [hs.floor, hs.now]; exact h.floor, hs.ok⟩
theorem Both2.back (h : Both2 p m L) : Both2 (backD p (ofs L L.length)).2 m L := by
  obtain ⟨r, hr⟩ := h.now
  have hg := hr.good
  have hl := hr.length
  unfold backD DkS.cut
  rcases op_two h.ok (fun d => ((0 : Int), { d with now := d.now.take (ofs L L.length), floor := min d.floor (ofs L L.length) })) with ⟨d', h1, h2, hs⟩ | ⟨d', h1, hs⟩
  · rw [if_pos h1, h2]
    exact ⟨hs.most.trans h.most, by rw [hs.now]; exact h.now, by rw [hs.old]; exact h.old, by rw [hs.floor, hs.now]; exact h.floor, hs.ok⟩
  · rw [h1, if_neg (by simp)]
    have e1 : d'.now.take (ofs L L.length) = bas L := by rw [hs.now, hr.bas', ← bas_length]; exact List.take_left' rfl
    have e2 : min d'.floor (ofs L L.length) = (bas L).length := by rw [hs.floor, h.floor, hl, bas_length]; omega
    show Both2 (DkS.sync { d' with now := d'.now.take (ofs L L.length), floor := min d'.floor (ofs L L.length) }).2 m L
    rw [e1, e2]
    have hc : Both2 { d' with now := bas L, floor := (bas L).length } m L := ⟨hs.most.trans h.most, ⟨[], told_bas hg⟩, by show ∃ r, Told d'.old L r; rw [hs.old]; exact h.old, rfl, hs.ok⟩
    revert hc
    generalize ({ d' with now := bas L, floor := (bas L).length } : DkS) = q
    intro hc
    unfold DkS.sync
    rcases op_two hc.ok (fun d => ((0 : Int), { d with old := d.now, floor := d.now.length })) with ⟨q', k1, k2, ks⟩ | ⟨q', k1, ks⟩
    · rw [k2]
      exact ⟨ks.most.trans hc.most, by rw [ks.now]; exact hc.now, by rw [ks.old]; exact hc.old, by rw [ks.floor, ks.now]; exact hc.floor, ks.ok⟩
    · rw [k1]
      have hn : ∃ r, Told q'.now L r := by rw [ks.now]; exact hc.now
      exact ⟨ks.most.trans hc.most, hn, hn, rfl, ks.ok⟩
theorem Both2.opened {r : List Nat} (h : Both2 p m L) : Both2 (openD p L r).2 m L := by
  unfold openD
  split
  · exact h.pre
  · exact h.pre.back
theorem Both2.crash (h : Both2 p m L) (hc : CrashTo p p') : Both2 p' m L ∧ p'.old = p'.now := by
  have e : ∃ r, Told p'.now L r := by
    rcases hc.left with h1 | ⟨h1, h2, h3⟩
    · rw [h1]; exact h.old
    · rw [h.floor, List.take_of_length_le (Nat.le_refl _), List.take_of_length_le h2] at h3
      rw [h3]; exact h.now
  exact ⟨⟨hc.most.trans h.most, e, by rw [hc.same]; exact e, hc.floor, hc.ok⟩, hc.same⟩
/-- A disk that will not fail. -/
structure Calm (p : DkS) : Prop where
  down : p.down = false
  armed : p.armed = -1
  fails : p.fails = 0
theorem Calm.pre (h : Calm p) : p.pre = (none, p) := by
  unfold DkS.pre
  rw [h.armed]
  have e : (if (0 : Int) < -1 then (-1 : Int) - 1 else -1) = -1 := by decide
  rw [if_neg (by rw [h.down]; decide), if_neg (by decide), if_pos h.fails, e]
  have e2 := h.armed
  have e3 := h.fails
  have e4 := h.down
  cases p
  simp only at e2 e3 e4
  subst e2; subst e3; subst e4
  rfl
theorem Calm.op (h : Calm p) (F : DkS → Int × DkS) : p.op F = F p := by unfold DkS.op; rw [h.pre]
theorem CrashTo.calm (h : CrashTo p p') : Calm p' := ⟨h.down, h.armed, h.fails⟩
/-- Opened with nothing that fails: at rest. -/
theorem Both2.rest {r : List Nat} (h : Both2 p m L) (hs : p.old = p.now) (hc : Calm p) (hr : Told p.now L r) : (openD p L r).1 = 0 ∧ Rest (openD p L r).2 m L ∧ Calm (openD p L r).2 := by
  unfold openD
  by_cases h0 : r = []
  · subst h0
    rw [if_pos rfl, hc.pre]
    have e := hr.bas'
    exact ⟨rfl, ⟨h.most, e, hs.trans e, by rw [h.floor, e, List.append_nil]; rfl, h.ok⟩, hc⟩
  · rw [if_neg h0, hc.pre]
    have e : p.now.take (ofs L L.length) = bas L := by rw [hr.bas', ← bas_length]; exact List.take_left' rfl
    have e2 : min p.floor (ofs L L.length) = (bas L).length := by rw [h.floor, hr.length, bas_length]; omega
    unfold backD DkS.cut
    rw [hc.op, if_neg (by simp)]
    show (DkS.sync { p with now := p.now.take (ofs L L.length), floor := min p.floor (ofs L L.length) }).1 = 0 ∧ _
    have hq : Calm { p with now := p.now.take (ofs L L.length), floor := min p.floor (ofs L L.length) } := ⟨hc.down, hc.armed, hc.fails⟩
    unfold DkS.sync
    rw [hq.op]
    exact ⟨rfl, ⟨h.most, by show p.now.take _ = _; rw [e, List.append_nil], by show p.now.take _ = _; rw [e, List.append_nil], by show (p.now.take _).length = _; rw [e]; rfl, h.ok⟩, ⟨hc.down, hc.armed, hc.fails⟩⟩
/-- An Add with nothing that fails. -/
theorem Calm.append (h : Calm p) (x : List Nat) (hm : p.now.length + x.length ≤ p.most) : p.append x = (0, { p with now := p.now ++ x }) := by
  unfold DkS.append
  rw [h.op, if_neg (by omega)]
theorem Calm.sync (h : Calm p) : p.sync = (0, { p with old := p.now, floor := p.now.length }) := by
  unfold DkS.sync
  rw [h.op]
end
end Go.Proofs.YtlhbijpmhokmnaaGreat
