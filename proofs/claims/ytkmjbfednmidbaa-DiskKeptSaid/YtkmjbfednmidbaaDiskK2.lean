/-
  WHAT DiskKept SAYS OF A DISK, IN PLAIN LEAN. Conditions: each law's own premises.
-/
import Derived.Test.YtkmjbfednmidbaaDiskK1
namespace Go.Proofs.Ytkmjbfednmidbaa
open Go.RowKit
set_option linter.unusedSimpArgs false
set_option linter.unusedVariables false

/-- A disk of the law's: it never fails, its floor is within its bytes. -/
structure DkS.Kept (d : DkS) : Prop where
  fl : d.floor ≤ d.now.length
  fails : d.fails = 0
  now : d.now.length ≤ 4194304
theorem op_two (d : DkS) (h : d.Kept) (F : DkS → Int × DkS) :
    ((d.op F).1 = 11 ∧ (d.op F).2.Kept ∧ (d.op F).2.now = d.now ∧ (d.op F).2.old = d.old ∧ (d.op F).2.floor = d.floor) ∨
    ∃ d', d'.Kept ∧ d'.now = d.now ∧ d'.old = d.old ∧ d'.floor = d.floor ∧ d'.most = d.most ∧ d.op F = F d' := by
  obtain ⟨h1, h2, h3⟩ := h
  unfold DkS.op DkS.pre
  by_cases e1 : d.down = true
  · rw [if_pos e1]
    exact .inl ⟨rfl, ⟨h1, h2, h3⟩, rfl, rfl, rfl⟩
  · rw [if_neg e1]
    by_cases e2 : d.armed = 0
    · rw [if_pos e2]
      exact .inl ⟨rfl, ⟨h1, h2, h3⟩, rfl, rfl, rfl⟩
    · rw [if_neg e2, if_pos h2]
      exact .inr ⟨{ d with armed := if 0 < d.armed then d.armed - 1 else d.armed }, ⟨h1, h2, h3⟩, rfl, rfl, rfl, rfl, rfl⟩
theorem sync_two (d : DkS) (h : d.Kept) :
    (d.sync.1 = 11 ∧ d.sync.2.Kept ∧ d.sync.2.now = d.now ∧ d.sync.2.old = d.old ∧ d.sync.2.floor = d.floor) ∨
    (d.sync.1 = 0 ∧ d.sync.2.Kept ∧ d.sync.2.now = d.now ∧ d.sync.2.old = d.now ∧ d.sync.2.floor = d.now.length) := by
  rcases op_two d h fun d => (0, { d with old := d.now, floor := d.now.length }) with k | ⟨d', k1, k2, k3, k4, k5, k6⟩
  · exact .inl k
  · refine .inr ?_
    unfold DkS.sync
    rw [k6]
    exact ⟨rfl, ⟨Nat.le_refl _, k1.fails, k1.now⟩, k2, k2, by rw [← k2]⟩
theorem trunc_two (d : DkS) (h : d.Kept) (n : Nat) (hn : n ≤ d.now.length) (r : Int × DkS) (hr : r = d.op fun d => (0, { d with now := d.now.take n, floor := min d.floor n })) :
    (r.1 = 11 ∧ r.2.Kept ∧ r.2.now = d.now ∧ r.2.old = d.old ∧ r.2.floor = d.floor) ∨
    (r.1 = 0 ∧ r.2.Kept ∧ r.2.now = d.now.take n ∧ r.2.old = d.old ∧ r.2.floor = min d.floor n) := by
  subst hr
  rcases op_two d h fun d => (0, { d with now := d.now.take n, floor := min d.floor n }) with k | ⟨d', k1, k2, k3, k4, k5, k6⟩
  · exact .inl k
  · refine .inr ?_
    rw [k6]
    have hl : (d'.now.take n).length = min n d'.now.length := List.length_take
    have := k1.fl
    have := k1.now
    have : d'.now.length = d.now.length := by rw [k2]
    exact ⟨rfl, ⟨by show min d'.floor n ≤ (d'.now.take n).length; omega, k1.fails, by show (d'.now.take n).length ≤ _; omega⟩, by show d'.now.take n = _; rw [k2], k3, by show min d'.floor n = _; rw [k4]⟩
theorem append_two (d : DkS) (h : d.Kept) (hw : d.most ≤ 4194304) (m : List Nat) :
    ((d.append m).1 ≠ 0 ∧ (d.append m).2.Kept ∧ (d.append m).2.now = d.now ∧ (d.append m).2.old = d.old ∧ (d.append m).2.floor = d.floor) ∨
    ((d.append m).1 = 0 ∧ (d.append m).2.Kept ∧ (d.append m).2.now = d.now ++ m ∧ (d.append m).2.old = d.old ∧ (d.append m).2.floor = d.floor) := by
  rcases op_two d h fun d => if d.most < d.now.length + m.length then (5, d) else (0, { d with now := d.now ++ m }) with ⟨k, k'⟩ | ⟨d', k1, k2, k3, k4, k5, k6⟩
  · exact .inl ⟨by unfold DkS.append; rw [k]; omega, k'⟩
  · unfold DkS.append
    rw [k6]
    by_cases e : d'.most < d'.now.length + m.length
    · rw [if_pos e]
      exact .inl ⟨by show (5 : Int) ≠ 0; omega, k1, k2, k3, k4⟩
    · rw [if_neg e]
      refine .inr ⟨rfl, ⟨?_, k1.fails, ?_⟩, by show d'.now ++ m = _; rw [k2], k3, k4⟩
      · show d'.floor ≤ (d'.now ++ m).length
        rw [List.length_append]
        have := k1.fl
        omega
      · show (d'.now ++ m).length ≤ _
        rw [List.length_append]
        omega
theorem crLeft_length (d : DkS) (h : d.floor ≤ d.now.length) (keep : Int) (hk : 0 ≤ keep) (junk : List Nat) : (crLeft d keep junk).length = d.floor + (min keep (d.now.length - d.floor : Nat)).toNat := by
  unfold crLeft
  rw [if_neg (by omega)]
  split
  · rw [List.length_take]; omega
  · rw [jk_length, List.length_take]; omega
theorem crLeft_nth (d : DkS) (h : d.floor ≤ d.now.length) (keep : Int) (hk : 0 ≤ keep) (junk : List Nat) (i : Nat) (hi : i < (crLeft d keep junk).length)
    (hj : ¬ ((d.floor ≤ i ∧ i / 512 = ((crLeft d keep junk).length - 1) / 512) ∧ 0 < junk.length)) : nth (crLeft d keep junk) i = nth d.now i := by
  have hl := crLeft_length d h keep hk junk
  rw [hl] at hi hj
  have ht : nth (d.now.take (d.floor + (min keep (d.now.length - d.floor : Nat)).toNat)) i = nth d.now i := by simp [nth, List.getElem?_take, hi]
  unfold crLeft
  rw [if_neg (by omega)]
  split
  · exact ht
  · rename_i hj0
    have h0 : 0 < junk.length := List.length_pos_iff.2 hj0
    have hbl : (d.now.take (d.floor + (min keep (d.now.length - d.floor : Nat)).toNat)).length = d.floor + (min keep (d.now.length - d.floor : Nat)).toNat := by rw [List.length_take]; omega
    rw [hbl]
    rw [← ht]
    have hi' : i < (jk (crFrom d.floor (d.floor + (min keep (d.now.length - d.floor : Nat)).toNat)) junk (d.now.take (d.floor + (min keep (d.now.length - d.floor : Nat)).toNat)) (d.floor + (min keep (d.now.length - d.floor : Nat)).toNat)).length := by rw [jk_length, hbl]; exact hi
    have hc : i < crFrom d.floor (d.floor + (min keep (d.now.length - d.floor : Nat)).toNat) := by
      unfold crFrom
      omega
    rw [nth_get hi']
    simp only [jk, List.getElem_map, List.getElem_range]
    rw [if_neg (by omega)]
end Go.Proofs.Ytkmjbfednmidbaa
