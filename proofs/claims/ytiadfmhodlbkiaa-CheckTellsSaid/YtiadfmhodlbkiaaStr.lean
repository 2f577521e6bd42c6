/-
  STRINGS AS LISTS OF NUMBERS: parts, prefixes, runes. Conditions: none.
-/
import Derived.Test.YtiadfmhodlbkiaaBytes
import Derived.Lib.Strings
import Derived.Lib.OthersKept
import Derived.Laws.RangeAny
namespace Go.Proofs.Ytiadfmhodlbkiaa
open Go.RowKit
set_option linter.unusedSimpArgs false
set_option linter.unusedVariables false

/-- The string of these bytes. -/
def mkS (l : List Nat) : ByteArray := ⟨(l.map UInt8.ofNat).toArray⟩
theorem strB_mkS {l : List Nat} (h : ∀ x ∈ l, x < 256) : strB (mkS l) = l := by
  unfold strB mkS
  simp only [List.map_map]
  conv => rhs; rw [← List.map_id l]
  apply List.map_congr_left
  intro x hx
  have := h x hx
  simp [UInt8.toNat_ofNat']
  omega
theorem mkS_strB (s : ByteArray) : mkS (strB s) = s := by
  unfold strB mkS
  rw [List.map_map]
  have : List.map (UInt8.ofNat ∘ UInt8.toNat) s.data.toList = s.data.toList := by
    conv => rhs; rw [← List.map_id s.data.toList]
    apply List.map_congr_left
    intro x _
    simp
  rw [this]
theorem strB_inj {s t : ByteArray} (h : strB s = strB t) : s = t := by rw [← mkS_strB s, ← mkS_strB t, h]
theorem strB_nth {s : ByteArray} {i : Nat} (h : i < s.size) : nth (strB s) i = (s[i]'h).toNat := by
  have h' : i < (strB s).length := by rw [strB_length]; exact h
  rw [nth_get h']
  simp [strB]
  rfl
theorem get_nth {s : ByteArray} {i : Nat} (h : i < s.size) : (s.get! i).toNat = nth (strB s) i := by
  rw [strB_nth h]
  have := get_at s i h
  rw [Nat.add_zero] at this
  rw [this]
theorem strB_extract (s : ByteArray) (a b : Nat) : strB (s.extract a b) = ((strB s).drop a).take (b - a) := by
  unfold strB
  rw [Lib.extract_data, List.map_take, List.map_drop]
theorem strB_data_inj {s t : ByteArray} : s.data.toList = t.data.toList ↔ strB s = strB t := by
  constructor
  · intro h; simp [strB, h]
  · intro h; rw [strB_inj h]
theorem str_eq (s t : ByteArray) : (s.toList == t.toList) = decide (strB s = strB t) := by
  rw [Bool.eq_iff_iff]
  simp only [beq_iff_eq, decide_eq_true_eq]
  rw [Lib.toList_data, Lib.toList_data, strB_data_inj]

/-- How many bytes of a kind a list begins with. -/
def wl (p : Nat → Bool) (l : List Nat) : Nat := (l.takeWhile p).length
theorem wl_le (p : Nat → Bool) (l : List Nat) : wl p l ≤ l.length := (List.takeWhile_sublist p).length_le
theorem wl_at {p : Nat → Bool} {k : Nat} : ∀ {l : List Nat}, k < l.length → (∀ j, j < k → p (nth l j) = true) → p (nth l k) = false → wl p l = k := by
  induction k with
  | zero =>
    intro l hk _ hf
    cases l with
    | nil => simp at hk
    | cons a l =>
      have : p a = false := by simpa [nth] using hf
      simp [wl, List.takeWhile_cons, this]
  | succ k ih =>
    intro l hk ha hf
    cases l with
    | nil => simp at hk
    | cons a l =>
      have h0 : p a = true := by simpa [nth] using ha 0 (by omega)
      have := ih (l := l) (by simpa using hk) (fun j hj => by simpa [nth] using ha (j + 1) (by omega)) (by simpa [nth] using hf)
      unfold wl at this ⊢
      rw [List.takeWhile_cons, h0]
      simpa using this
theorem wl_lt {p : Nat → Bool} : ∀ {l : List Nat} {j : Nat}, j < wl p l → p (nth l j) = true := by
  intro l
  induction l with
  | nil => intro j hj; simp [wl] at hj
  | cons a l ih =>
    intro j hj
    unfold wl at hj
    rw [List.takeWhile_cons] at hj
    by_cases h : p a = true
    · rw [h] at hj
      cases j with
      | zero => simpa [nth] using h
      | succ j => simpa [nth] using ih (j := j) (by simpa [wl] using hj)
    · rw [if_neg h] at hj
      simp at hj
theorem wl_stop {p : Nat → Bool} {l : List Nat} (h : wl p l < l.length) : p (nth l (wl p l)) = false := by
  induction l with
  | nil => simp [wl] at h
  | cons a l ih =>
    by_cases hp : p a = true
    · have e : wl p (a :: l) = wl p l + 1 := by simp [wl, List.takeWhile_cons, hp]
      rw [e] at h ⊢
      simpa [nth] using ih (by simpa using h)
    · have e : wl p (a :: l) = 0 := by simp [wl, List.takeWhile_cons, hp]
      rw [e]
      simpa [nth] using hp

theorem wl_all {p : Nat → Bool} {l : List Nat} (h : ∀ j, j < l.length → p (nth l j) = true) : wl p l = l.length := by
  rcases Nat.lt_or_ge (wl p l) l.length with h1 | h1
  · have := wl_stop h1
    rw [h _ h1] at this
    cases this
  · have := wl_le p l
    omega

/-- The bytes of a rune that is not ASCII are not ASCII. -/
theorem decode_mid (s : ByteArray) (pos : Nat) (h : pos < s.size) (ha : 128 ≤ nth (strB s) pos) : ∀ j, j < (Utf8.decode s pos).2 → pos + j < s.size ∧ 128 ≤ nth (strB s) (pos + j) := by
  have h0 : pos + 0 < s.size ∧ 128 ≤ nth (strB s) (pos + 0) := ⟨h, ha⟩
  have hc : ∀ k, (decide (pos + k < s.size) && (s.get! (pos + k)).toNat / 64 == 2) = true → pos + k < s.size ∧ 128 ≤ nth (strB s) (pos + k) := by
    intro k hk
    simp only [Bool.and_eq_true, decide_eq_true_eq, beq_iff_eq] at hk
    refine ⟨hk.1, ?_⟩
    rw [← get_nth hk.1]
    omega
  unfold Utf8.decode
  simp only
  intro j
  split
  · intro hj; obtain rfl : j = 0 := by simpa using hj
    exact h0
  · split
    · rename_i h1
      rw [Bool.and_eq_true] at h1
      have c1 := hc 1 h1.2
      split
      all_goals
        intro hj
        have hj' : j = 0 ∨ j = 1 := by simp at hj; omega
        rcases hj' with rfl | rfl
        · exact h0
        · exact c1
    · split
      · rename_i h1
        rw [Bool.and_eq_true, Bool.and_eq_true] at h1
        have c1 := hc 1 h1.1.2
        have c2 := hc 2 h1.2
        split
        all_goals
          intro hj
          have hj' : j = 0 ∨ j = 1 ∨ j = 2 := by simp at hj; omega
          rcases hj' with rfl | rfl | rfl
          · exact h0
          · exact c1
          · exact c2
      · split
        · rename_i h1
          rw [Bool.and_eq_true, Bool.and_eq_true, Bool.and_eq_true] at h1
          have c1 := hc 1 h1.1.1.2
          have c2 := hc 2 h1.1.2
          have c3 := hc 3 h1.2
          split
          all_goals
            intro hj
            have hj' : j = 0 ∨ j = 1 ∨ j = 2 ∨ j = 3 := by simp at hj; omega
            rcases hj' with rfl | rfl | rfl | rfl
            · exact h0
            · exact c1
            · exact c2
            · exact c3
        · intro hj; obtain rfl : j = 0 := by simpa using hj
          exact h0
end Go.Proofs.Ytiadfmhodlbkiaa
