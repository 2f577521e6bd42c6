/-
  THE WALK OF quillpresslaw05.awake: the chapter's examples come out. Conditions: none.
-/
import Derived.Test.YtmldpamkghdohaaAesW7
import Derived.Test.YtmldpamkghdohaaAesE
namespace Go.Proofs.Ytmldpamkghdohaa
open Go.RowKit
set_option linter.unusedSimpArgs false
set_option linter.unusedVariables false

theorem row_rd {w : World} {g t n : Nat} {f : Nat → Nat} (h : w.rowIs g t n (fun i => .int .u8 (f i : Nat))) (hf : ∀ i, i < n → f i < 256) : Rd w (some ⟨g, 0, none⟩) ((List.range n).map f) := by
  refine ⟨fun x hx => ?_, fun _ => ⟨g, 0, rfl, h.lt, fun i hi => ?_⟩⟩
  · simp only [List.mem_map, List.mem_range] at hx
    obtain ⟨i, hi, rfl⟩ := hx
    exact hf i hi
  · have hi' : i < n := by simpa using hi
    rw [Nat.zero_add, h.cell hi']
    simp [nth, hi']
/-- A literal of bytes, as it lies in its block. -/
theorem lit_rd (w : World) (t : TypeId) (l : List Nat) (hl : ∀ x ∈ l, x < 256) (cs : Array Value) (h : cs.toList = bs l) : Rd (w.alloc (.cells cs t)) (some ⟨w.heap.size, 0, none⟩) l := by
  refine ⟨hl, fun _ => ⟨_, 0, rfl, by simp, fun i hi => ?_⟩⟩
  rw [Nat.zero_add, cell_of_row _ _ _ _ _ _ (heap_alloc_new w _), ← Array.getElem?_toList, h, bs_get hi, nth_get hi]
  rfl
theorem rowL_lt (a b n : Nat) : ∀ x ∈ rowL a b n, x < 256 := by
  intro x hx
  simp only [rowL, List.mem_map] at hx
  obtain ⟨i, _, rfl⟩ := hx
  omega
theorem rowL_length (a b n : Nat) : (rowL a b n).length = n := by simp [rowL]
theorem ks_lt {key : List Nat} (h : ∀ x ∈ key, x < 256) : ∀ x ∈ ks key, x < 256 := by
  have step : ∀ l p i, (∀ x ∈ l, x < 256) → p < 256 → ∀ x ∈ ksA l p i, x < 256 := by
    intro l p i hl hp x hx
    unfold ksA at hx
    rcases List.mem_append.1 hx with hx | hx
    · exact hl x hx
    · simp only [List.mem_map] at hx
      obtain ⟨k, _, rfl⟩ := hx
      exact xor_lt8 (nth_lt hl _) (ksT_lt hl hp)
  have key' : ∀ f l p i, (∀ x ∈ l, x < 256) → p < 256 → ∀ x ∈ ksF f l p i, x < 256 := by
    intro f
    induction f with
    | zero => intro l p i hl _; exact hl
    | succ f ih =>
      intro l p i hl hp
      unfold ksF
      refine ih _ _ _ (step l p i hl hp) ?_
      split
      · exact tm_lt _ _ hp
      · exact hp
  exact key' 52 key 1 8 h (by omega)

theorem same_n (A1 A2 : Option Addr) (n1 n2 c1 c2 : Nat) (a b : List Nat) (w : World) (h1 : n1 = a.length) (h2 : n2 = b.length) (ha : Rd w A1 a) (hb : Rd w A2 b) (hla : a.length ≤ 9223372036854775807) (hlb : b.length ≤ 9223372036854775807) :
    Calls Try.prog 15 #[.slice A1 n1 c1, .slice A2 n2 c2] w (Quiet (.bool (sameB a b)) w) := by
  subst h1; subst h2
  exact same_any A1 A2 c1 c2 a b w ha hb hla hlb

end Go.Proofs.Ytmldpamkghdohaa
