/-
  THE DOCUMENT's DISK, PLAINLY; how it goes beside the program's: plain lemmas. Conditions: none.
-/
import Derived.Test.YtkmjbfednmidbaaDiskA
namespace Go.Proofs.Ytkmjbfednmidbaa
open Go.RowKit
set_option linter.unusedSimpArgs false
set_option linter.unusedVariables false

structure RfS where
  most : Nat
  now : List Nat
  old : List Nat
  floor : Nat
  down : Bool
  armed : Nat
  fails : Nat
  err : Int
/-- Ahead of an operation: an error (0: none), the disk then. -/
def RfS.pre (d : RfS) : Int × RfS :=
  if d.down = true then (11, d)
  else if d.armed = 1 then (11, { d with down := true })
  else if d.fails = 2 then (d.err, { d with armed := if 1 < d.armed then d.armed - 1 else d.armed, fails := 0 })
  else (0, { d with armed := if 1 < d.armed then d.armed - 1 else d.armed, fails := if 2 < d.fails then d.fails - 1 else d.fails })
/-- Two counters beside one another: behind k steps. b: 0, none; else one more. -/
def Cnt (k : Nat) (a : Int) (b : Nat) : Prop := (a = -1 ∧ b = 0) ∨ (0 ≤ a ∧ (b : Int) = a + 1) ∨ (1152921504606846976 - k ≤ a ∧ 1152921504606846977 - k ≤ (b : Int))
structure DR (k : Nat) (d : DkS) (r : RfS) : Prop where
  most : r.most = d.most
  now : r.now = d.now
  old : r.old = d.old
  floor : r.floor = d.floor
  down : r.down = d.down
  armed : Cnt k d.armed r.armed
  fails : Cnt k (if d.fails = 0 then -1 else d.fails) r.fails
  errs : d.fails = 0 ∨ (r.err = d.err ∧ d.err ≠ 0)
  fl : d.floor ≤ d.now.length
theorem DR.mono {k k' : Nat} {d : DkS} {r : RfS} (h : DR k d r) (hk : k ≤ k') : DR k' d r := by
  obtain ⟨h1, h2, h3, h4, h5, h6, h7, h8, h9⟩ := h
  refine ⟨h1, h2, h3, h4, h5, ?_, ?_, h8, h9⟩
  · rcases h6 with h | h | h
    · exact .inl h
    · exact .inr (.inl h)
    · exact .inr (.inr (by omega))
  · rcases h7 with h | h | h
    · exact .inl h
    · exact .inr (.inl h)
    · exact .inr (.inr (by omega))
theorem DR.pre {k : Nat} {d : DkS} {r : RfS} (h : DR k d r) (hk : k ≤ 1000) : (match d.pre.1 with | none => r.pre.1 = 0 | some e => r.pre.1 = e ∧ e ≠ 0) ∧ DR (k + 1) d.pre.2 r.pre.2 := by
  obtain ⟨h1, h2, h3, h4, h5, h6, h7, h8, h9⟩ := h
  rw [show d.pre = DkS.pre d from rfl, show r.pre = RfS.pre r from rfl]
  unfold DkS.pre RfS.pre
  by_cases e1 : d.down = true
  · rw [if_pos e1, if_pos (show r.down = true by rw [h5]; exact e1)]
    exact ⟨⟨rfl, by decide⟩, DR.mono ⟨h1, h2, h3, h4, h5, h6, h7, h8, h9⟩ (by omega)⟩
  · rw [if_neg e1, if_neg (show ¬ r.down = true by rw [h5]; exact e1)]
    by_cases e2 : d.armed = 0
    · have e2' : r.armed = 1 := by
        rcases h6 with h | h | h <;> omega
      rw [if_pos e2, if_pos (show r.armed = 1 from e2')]
      exact ⟨⟨rfl, by decide⟩, DR.mono (k := k) ⟨h1, h2, h3, h4, rfl, h6, h7, h8, h9⟩ (by omega)⟩
    · have e2' : r.armed ≠ 1 := by
        rcases h6 with h | h | h <;> omega
      have ha : Cnt (k + 1) (if 0 < d.armed then d.armed - 1 else d.armed) (if 1 < r.armed then r.armed - 1 else r.armed) := by
        rcases h6 with ⟨h, h'⟩ | ⟨h, h'⟩ | ⟨h, h'⟩
        · exact .inl (by rw [if_neg (by omega), if_neg (by omega)]; exact ⟨h, h'⟩)
        · exact .inr (.inl (by rw [if_pos (by omega), if_pos (by omega)]; omega))
        · exact .inr (.inr (by rw [if_pos (by omega), if_pos (by omega)]; omega))
      rw [if_neg e2, if_neg (show ¬ r.armed = 1 from e2')]
      by_cases e3 : d.fails = 0
      · rw [if_pos e3] at h7 ⊢
        have e3' : r.fails = 0 := by rcases h7 with h | h | h <;> omega
        rw [if_neg (show ¬ r.fails = 2 by omega), if_neg (show ¬ 2 < r.fails by omega)]
        exact ⟨rfl, h1, h2, h3, h4, h5, ha, by rw [if_pos e3, e3']; exact .inl ⟨rfl, rfl⟩, .inl e3, h9⟩
      · rw [if_neg e3] at h7 ⊢
        by_cases e4 : d.fails = 1
        · have e4' : r.fails = 2 := by rcases h7 with h | h | h <;> omega
          rw [if_pos e4, if_pos e4']
          rcases h8 with h8 | h8
          · omega
          · exact ⟨⟨h8.1, h8.2⟩, h1, h2, h3, h4, h5, ha, .inl ⟨rfl, rfl⟩, .inl rfl, h9⟩
        · have e4' : 2 < r.fails := by rcases h7 with h | h | h <;> omega
          rw [if_neg e4, if_neg (show ¬ r.fails = 2 by omega), if_pos e4']
          refine ⟨rfl, h1, h2, h3, h4, h5, ha, ?_, ?_, h9⟩
          · rw [if_neg (by show d.fails - 1 ≠ 0; omega)]
            rcases h7 with h | h | h
            · omega
            · exact .inr (.inl (by show (0:Int) ≤ ((d.fails - 1 : Nat) : Int) ∧ ((r.fails - 1 : Nat) : Int) = ((d.fails - 1 : Nat) : Int) + 1; omega))
            · exact .inr (.inr (by show _ ≤ ((d.fails - 1 : Nat) : Int) ∧ _ ≤ ((r.fails - 1 : Nat) : Int); omega))
          · rcases h8 with h8 | h8
            · omega
            · exact .inr h8
def RfS.op (d : RfS) (f : RfS → Int × RfS) : Int × RfS := if d.pre.1 = 0 then f d.pre.2 else (d.pre.1, d.pre.2)
def RfS.append (d : RfS) (m : List Nat) : Int × RfS := d.op fun d => if d.most < d.now.length + m.length then (5, d) else (0, { d with now := d.now ++ m })
def RfS.sync (d : RfS) : Int × RfS := d.op fun d => (0, { d with old := d.now, floor := d.now.length })
def RfS.trunc (d : RfS) (n : Nat) : Int × RfS := d.op fun d => (0, { d with now := d.now.take n, floor := if n < d.floor then n else d.floor })
def RfS.arm (d : RfS) (n : Nat) : RfS := { d with armed := (if 1152921504606846976 < n then 1152921504606846976 else n) + 1 }
def RfS.fail (d : RfS) (n : Nat) (e : Int) : RfS := { d with fails := (if 1152921504606846976 < n then 1152921504606846976 else n) + 1, err := e }
theorem DR.op {k : Nat} {d : DkS} {r : RfS} (h : DR k d r) (hk : k ≤ 1000) (F : DkS → Int × DkS) (G : RfS → Int × RfS) (hF : DR (k + 1) d.pre.2 r.pre.2 → (G r.pre.2).1 = (F d.pre.2).1 ∧ DR (k + 1) (F d.pre.2).2 (G r.pre.2).2) : (r.op G).1 = (d.op F).1 ∧ DR (k + 1) (d.op F).2 (r.op G).2 := by
  obtain ⟨h1, h2⟩ := h.pre hk
  unfold DkS.op RfS.op
  cases hp : d.pre with
  | mk x y =>
    rw [hp] at h1 h2 hF
    cases x with
    | none =>
      rw [if_pos h1]
      exact hF h2
    | some e =>
      rw [if_neg (by rw [h1.1]; exact h1.2)]
      exact ⟨h1.1, h2⟩
theorem DR.append {k : Nat} {d : DkS} {r : RfS} (h : DR k d r) (hk : k ≤ 1000) (m : List Nat) : (r.append m).1 = (d.append m).1 ∧ DR (k + 1) (d.append m).2 (r.append m).2 := by
  refine h.op hk _ _ fun h' => ?_
  by_cases e : d.pre.2.most < d.pre.2.now.length + m.length
  · rw [if_pos e, if_pos (show r.pre.2.most < r.pre.2.now.length + m.length by rw [h'.most, h'.now]; exact e)]
    exact ⟨rfl, h'⟩
  · rw [if_neg e, if_neg (show ¬ r.pre.2.most < r.pre.2.now.length + m.length by rw [h'.most, h'.now]; exact e)]
    refine ⟨rfl, h'.most, by show r.pre.2.now ++ m = d.pre.2.now ++ m; rw [h'.now], h'.old, h'.floor, h'.down, h'.armed, h'.fails, h'.errs, ?_⟩
    show d.pre.2.floor ≤ (d.pre.2.now ++ m).length
    have := h'.fl
    rw [List.length_append]; omega
theorem DR.sync {k : Nat} {d : DkS} {r : RfS} (h : DR k d r) (hk : k ≤ 1000) : r.sync.1 = d.sync.1 ∧ DR (k + 1) d.sync.2 r.sync.2 := by
  refine h.op hk _ _ fun h' => ⟨rfl, h'.most, h'.now, h'.now, congrArg List.length h'.now, h'.down, h'.armed, h'.fails, h'.errs, Nat.le_refl _⟩
theorem DR.trunc {k : Nat} {d : DkS} {r : RfS} (h : DR k d r) (hk : k ≤ 1000) (n : Nat) (hn : n ≤ d.now.length) :
    (r.trunc n).1 = (d.op fun d => (0, { d with now := d.now.take n, floor := min d.floor n })).1 ∧ DR (k + 1) (d.op fun d => (0, { d with now := d.now.take n, floor := min d.floor n })).2 (r.trunc n).2 := by
  have hnn : d.pre.2.now = d.now := (DkS.pre_keeps d).2.1
  refine h.op hk _ _ fun h' => ⟨rfl, h'.most, by show r.pre.2.now.take n = d.pre.2.now.take n; rw [h'.now], h'.old, ?_, h'.down, h'.armed, h'.fails, h'.errs, ?_⟩
  · show (if n < r.pre.2.floor then n else r.pre.2.floor) = min d.pre.2.floor n
    rw [h'.floor]
    split <;> omega
  · show min d.pre.2.floor n ≤ (d.pre.2.now.take n).length
    rw [hnn, List.length_take]
    omega
theorem DR.arm {k : Nat} {d : DkS} {r : RfS} (h : DR k d r) (n : Nat) : DR k { d with armed := n } (r.arm n) := by
  refine ⟨h.most, h.now, h.old, h.floor, h.down, ?_, h.fails, h.errs, h.fl⟩
  show Cnt k (n : Int) ((if 1152921504606846976 < n then 1152921504606846976 else n) + 1)
  split
  · exact .inr (.inr (by omega))
  · exact .inr (.inl (by omega))
theorem DR.fail {k : Nat} {d : DkS} {r : RfS} (h : DR k d r) (n : Nat) (hn : 1 ≤ n) (e : Int) (he : e ≠ 0) : DR k { d with fails := n, err := e } (r.fail n e) := by
  refine ⟨h.most, h.now, h.old, h.floor, h.down, h.armed, ?_, .inr ⟨rfl, he⟩, h.fl⟩
  show Cnt k (if n = 0 then -1 else (n : Int)) ((if 1152921504606846976 < n then 1152921504606846976 else n) + 1)
  rw [if_neg (by omega)]
  split
  · exact .inr (.inr (by omega))
  · exact .inr (.inl (by omega))
end Go.Proofs.Ytkmjbfednmidbaa
