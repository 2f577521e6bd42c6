/-
  THE WALKS OF quillpresslaw07's abc, crashed, awake. Conditions: none, the strings small.
-/
import Derived.Test.YtmldpamkghdohaaDiskM
import Derived.Test.YtmldpamkghdohaaStr
import Derived.Lib.SlBytesConst
import Derived.Lib.ConvBytes
namespace Go.Proofs.Ytmldpamkghdohaa
open Go.RowKit
set_option linter.unusedSimpArgs false
set_option linter.unusedVariables false

/-- A disk of the call's own. -/
def Fr (base : Nat) (w0 w : World) (g : Nat) (d : DkS) : Prop := ∃ nb ob, Dk w g nb ob d ∧ base ≤ g ∧ (∀ k, nb = some k → base ≤ k) ∧ (∀ k, ob = some k → base ≤ k) ∧ Below base w0 w
section
variable {base g : Nat} {w0 w w' : World} {d d' : DkS}
theorem Fr.below' (h : Fr base w0 w g d) (hb : Below w.heap.size w w') (hs : base ≤ w.heap.size) : Fr base w0 w' g d := by
  obtain ⟨nb, ob, h1, h2, h3, h4, h5⟩ := h
  exact ⟨nb, ob, h1.below hb, h2, h3, h4, h5.trans (hb.mono hs)⟩
theorem Fr.at (h : Fr base w0 w g d) : base ≤ w.heap.size := by
  obtain ⟨nb, ob, h1, h2, h3, h4, h5⟩ := h
  exact Nat.le_trans h2 (Nat.le_of_lt h1.lt)
theorem Fr.below (h : Fr base w0 w g d) (hb : Below w.heap.size w w') : Fr base w0 w' g d := h.below' hb h.at
theorem Fr.of (h : Fr base w0 w g d) {nb ob : Option Nat} (h1 : Dk w' g nb ob d') (hg : w.grownBy w' (some g)) (h3 : ∀ k, nb = some k → base ≤ k) (h4 : ∀ k, ob = some k → base ≤ k) : Fr base w0 w' g d' := by
  obtain ⟨nb0, ob0, k1, k2, k3, k4, k5⟩ := h
  exact ⟨nb, ob, h1, k2, h3, h4, below_of_grown k5 hg (Nat.le_trans k2 (Nat.le_of_lt k1.lt)) k2⟩
theorem fr_new {nb ob nb' : Option Nat} (hs : base ≤ w.heap.size) (h3 : ∀ k, nb = some k → base ≤ k) (h4 : ∀ k, ob = some k → base ≤ k) (h : New w nb nb' ∨ New w ob nb') : ∀ k, nb' = some k → base ≤ k := by
  intro k e
  rcases h with (rfl | h) | (rfl | h)
  · exact h3 k e
  · exact Nat.le_trans hs (h k e)
  · exact h4 k e
  · exact Nat.le_trans hs (h k e)
/-- A call on it. -/
theorem Fr.call (h : Fr base w0 w g d) : ∃ nb ob, Dk w g nb ob d ∧ ∀ d' w', After w g nb ob d' w' → Fr base w0 w' g d' := by
  have hs := h.at
  have h0 := h
  obtain ⟨nb, ob, h1, h2, h3, h4, h5⟩ := h
  refine ⟨nb, ob, h1, fun d' w' ⟨nb', ob', k1, k2, k3, k4⟩ => h0.of k1 k4 (fr_new hs h3 h4 k2) (fr_new hs h3 h4 k3)⟩
end
theorem bytesW_below (w : World) (e : TypeId) (s : ByteArray) : Below w.heap.size w (Lib.bytesWorld w e s) := by
  have hg : w.grownBy (Lib.bytesWorld w e s) none := ⟨rfl, rfl, rfl, by rw [Lib.bytesWorld_size]; omega, fun i hi _ => Lib.bytesWorld_at_old w e s i hi⟩
  exact ⟨hg.os, hg.tape, hg.output, hg.size, fun i hi => hg.block i hi (by simp)⟩
theorem bytesW_rd (w : World) (e : TypeId) (s : ByteArray) : Rd (Lib.bytesWorld w e s) (some ⟨w.heap.size, 0, none⟩) (strB s) := by
  refine ⟨fun x hx => ?_, fun hl => ⟨w.heap.size, 0, rfl, by rw [Lib.bytesWorld_size]; omega, fun i hi => ?_⟩⟩
  · unfold strB at hx
    obtain ⟨y, -, rfl⟩ := List.mem_map.1 hx
    exact y.toNat_lt
  · rw [Nat.zero_add, Lib.bytesWorld_cell w e s i (by rw [← strB_length]; exact hi)]
    have hi' : i < s.data.toList.length := by simpa [strB] using hi
    rw [nth_get hi]
    have hi2 : i < s.data.size := by simpa using hi'
    simp only [strB, List.getD, List.getElem_map, Array.getElem_toList, Array.getElem?_toList]
    rw [Array.getElem?_eq_getElem hi2]
    rfl
theorem constW_rd (w : World) (e : TypeId) (l : List Nat) (h : ∀ x ∈ l, x < 256) (fr : Nat × Nat) : Rd (w.alloc (.cells (l.map fun x => Value.int .u8 (x : Nat)).toArray e fr)) (some ⟨w.heap.size, 0, none⟩) l := by
  refine ⟨h, fun hl => ⟨w.heap.size, 0, rfl, by simp, fun i hi => ?_⟩⟩
  rw [Nat.zero_add, cell_of_row _ _ _ _ _ _ (heap_alloc_new w _), nth_get hi]
  simp [hi]
theorem conv_str {w : World} {A : Option Addr} {l : List Nat} (h : Rd w A l) (c : Nat) : (convert 26 9 (.slice A l.length c)).run Try.prog w = .ok (.string (mkS l)) w := by
  rcases A with _ | ad
  · have hln : l = [] := by
      cases l with
      | nil => rfl
      | cons a t => obtain ⟨g, o, e, _⟩ := h.2 (by simp); cases e
    subst hln
    rw [show ([] : List Nat).length = 0 from rfl, run_convert_bytes_string (P := Try.prog) w 26 9 5 none 0 c Try.underlying26 Try.underlying5 Try.underlying9]
    simp [Conv.bytesToString]
    rfl
  · have := run_convert_bytes_back (P := Try.prog) w 26 9 5 ad c (l.map UInt8.ofNat) Try.underlying26 Try.underlying5 Try.underlying9 (fun j hj => by
      have hj' : j < l.length := by simpa using hj
      obtain ⟨g, o, e, _, hc⟩ := h.2 (by intro e; rw [e] at hj'; simp at hj')
      injection e with e
      subst e
      have hx := hc j hj'
      have e2 : (⟨g, o, none⟩ : Addr).add j = ⟨g, o + j, none⟩ := by unfold Addr.add; split <;> simp [*]
      rw [e2, hx, nth_get hj']
      have := h.1 _ (List.getElem_mem hj')
      simp [UInt8.toNat_ofNat']
      omega)
    rw [List.length_map] at this
    exact this
def abcD (m : List Nat) : DkS := ⟨1000, [97, 98, 99] ++ m, [97, 98, 99], 3, false, -1, 0, 0⟩
end Go.Proofs.Ytmldpamkghdohaa
