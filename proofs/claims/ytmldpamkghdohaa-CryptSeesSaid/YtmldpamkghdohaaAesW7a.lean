/-
  FOR THE WALK OF aes.New: the block of a cipher while it is filled; the round keys, byte by byte. Conditions: none.
-/
import Derived.Test.YtmldpamkghdohaaAesW6
import Derived.Test.YtmldpamkghdohaaBytes
import Derived.Deep.RegionHeld3
namespace Go.Proofs.Ytmldpamkghdohaa
open Go.RowKit
set_option linter.unusedSimpArgs false
set_option linter.unusedVariables false

/-- What lies in a cipher's block, by the two tables and the round keys' bytes. -/
def cphF (s b kk : Nat → Nat) (j : Nat) : Value :=
  if j = 0 then .bool true else if j < 257 then .int .u8 (s (j - 1) : Nat) else if j < 513 then .int .u8 (b (j - 257) : Nat) else .int .u8 (kk (j - 513) : Nat)
theorem cphV_eq (kb : Nat → Nat) : cphV kb = cphF sb bk kb := rfl
def zf (_ : Nat) : Nat := 0
/-- A cipher's block as it is made: the mark, noughts. -/
def cph0 : Array Value := #[.bool true] ++ Array.replicate 752 (.int .u8 0)
theorem cph0_eq : Try.zeroCells36.setIfInBounds 0 (.bool true) = cph0 := by kernel_rfl
theorem cph0_row (w : World) : (w.alloc (.cells cph0 36)).rowIs w.heap.size 36 753 (cphF zf zf zf) := by
  refine ⟨_, heap_alloc_new w _, by simp [cph0], fun j hj => ?_⟩
  unfold cph0 cphF zf
  rcases Nat.eq_zero_or_pos j with h | h
  · subst h; simp
  · rw [Array.getElem?_append_right (by simp; omega), if_neg (by omega)]
    have : (Array.replicate 752 (Value.int .u8 0))[j - #[Value.bool true].size]? = some (.int .u8 0) := by
      simp [Array.getElem?_replicate]
      omega
    rw [this]
    split
    · rfl
    · split <;> rfl
theorem ite_near {i k : Nat} (x y : Nat) (h : i ≠ k) : (if i < k then x else y) = if i < k + 1 then x else y := by
  by_cases e : i < k
  · rw [if_pos e, if_pos (by omega)]
  · rw [if_neg e, if_neg (by omega)]
theorem cph_step {w : World} {g k : Nat} (hk : k < 256) (h : w.rowIs g 36 753 (cphF (upd k sb zf) (upd k bk zf) zf)) :
    ((w.setCell ⟨g, 1 + k, none⟩ (.int .u8 (sb k : Nat))).setCell ⟨g, 257 + k, none⟩ (.int .u8 (bk k : Nat))).rowIs g 36 753 (cphF (upd (k + 1) sb zf) (upd (k + 1) bk zf) zf) := by
  refine ((h.set (1 + k) _).set (257 + k) _).congr ?_
  intro j hj
  unfold cphF upd
  by_cases e2 : j = 257 + k
  · subst e2
    rw [if_pos rfl, if_neg (by omega), if_neg (by omega), if_pos (by omega), if_pos (by omega), show 257 + k - 257 = k by omega]
  · rw [if_neg e2]
    by_cases e1 : j = 1 + k
    · subst e1
      rw [if_pos rfl, if_neg (by omega), if_pos (by omega), if_pos (by omega), show 1 + k - 1 = k by omega]
    · rw [if_neg e1]
      split
      · rfl
      · split
        · exact congrArg (fun n : Nat => Value.int .u8 n) (ite_near _ _ (by omega))
        · split
          · exact congrArg (fun n : Nat => Value.int .u8 n) (ite_near _ _ (by omega))
          · rfl

/-! ### The round keys, byte by byte -/
def ksT (l : List Nat) (p i k : Nat) : Nat :=
  if i % 8 = 0 then (if k = 0 then sb (nth l (4 * i - 4 + 1)) ^^^ p else sb (nth l (4 * i - 4 + (k + 1) % 4))) else if i % 8 = 4 then sb (nth l (4 * i - 4 + k)) else nth l (4 * i - 4 + k)
def ksA (l : List Nat) (p i : Nat) : List Nat := l ++ (List.range 4).map fun k => nth l (4 * i - 32 + k) ^^^ ksT l p i k
def ksF : Nat → List Nat → Nat → Nat → List Nat
  | 0, l, _, _ => l
  | f + 1, l, p, i => ksF f (ksA l p i) (if i % 8 = 0 then tm p 2 else p) (i + 1)
def ks (key : List Nat) : List Nat := ksF 52 key 1 8
theorem ksA_length (l : List Nat) (p i : Nat) : (ksA l p i).length = l.length + 4 := by simp [ksA]
theorem ksF_length (f : Nat) : ∀ l p i, (ksF f l p i).length = l.length + 4 * f := by
  induction f with
  | zero => intro l p i; rfl
  | succ f ih => intro l p i; unfold ksF; rw [ih, ksA_length]; omega
theorem ks_length {key : List Nat} (h : key.length = 32) : (ks key).length = 240 := by unfold ks; rw [ksF_length, h]
theorem ksT_lt {l : List Nat} {p i k : Nat} (hl : ∀ x ∈ l, x < 256) (hp : p < 256) : ksT l p i k < 256 := by
  have h := nth_lt hl
  unfold ksT
  split
  · split
    · exact xor_lt8 (sb_lt (h _)) hp
    · exact sb_lt (h _)
  · split
    · exact sb_lt (h _)
    · exact h _

def sel4 (a0 a1 a2 a3 k : Nat) : Nat := nth [a0, a1, a2, a3] k
theorem idx4 (a0 a1 a2 a3 k : Nat) (hk : k < 4) (W : World) : (Instr.index 76 (.agg #[.int .u8 (a0 : Nat), .int .u8 (a1 : Nat), .int .u8 (a2 : Nat), .int .u8 (a3 : Nat)]) (.int .i64 (k : Int))).run Try.prog W = .ok (.int .u8 (sel4 a0 a1 a2 a3 k : Nat)) W := by
  have h0 : (Instr.index 76 (.agg #[.int .u8 (a0 : Nat), .int .u8 (a1 : Nat), .int .u8 (a2 : Nat), .int .u8 (a3 : Nat)]) (.int .i64 0)).run Try.prog W = .ok (.int .u8 (a0 : Nat)) W := by kernel_rfl
  have h1 : (Instr.index 76 (.agg #[.int .u8 (a0 : Nat), .int .u8 (a1 : Nat), .int .u8 (a2 : Nat), .int .u8 (a3 : Nat)]) (.int .i64 1)).run Try.prog W = .ok (.int .u8 (a1 : Nat)) W := by kernel_rfl
  have h2 : (Instr.index 76 (.agg #[.int .u8 (a0 : Nat), .int .u8 (a1 : Nat), .int .u8 (a2 : Nat), .int .u8 (a3 : Nat)]) (.int .i64 2)).run Try.prog W = .ok (.int .u8 (a2 : Nat)) W := by kernel_rfl
  have h3 : (Instr.index 76 (.agg #[.int .u8 (a0 : Nat), .int .u8 (a1 : Nat), .int .u8 (a2 : Nat), .int .u8 (a3 : Nat)]) (.int .i64 3)).run Try.prog W = .ok (.int .u8 (a3 : Nat)) W := by kernel_rfl
  match k, hk with
  | 0, _ => exact h0
  | 1, _ => exact h1
  | 2, _ => exact h2
  | 3, _ => exact h3
theorem four_cells {W : World} {T t : Nat} {a0 a1 a2 a3 : Value} (h : W.heap[T]? = some (.cells #[a0, a1, a2, a3] t (0, 0))) (b0 b1 b2 b3 : Nat) :
    ∀ j, j < 4 → ((((((W.setCell ⟨T, 0, none⟩ (.int .u8 (b0 : Nat))).setCell ⟨T, 1, none⟩ (.int .u8 (b1 : Nat))).setCell ⟨T, 2, none⟩ (.int .u8 (b2 : Nat))).setCell ⟨T, 3, none⟩ (.int .u8 (b3 : Nat))).drew).cell? ⟨T, j, none⟩ = some (.int .u8 (sel4 b0 b1 b2 b3 j : Nat))) := by
  have hr : W.rowIs T t 4 (fun j => #[a0, a1, a2, a3].getD j a0) := ⟨_, h, rfl, fun i hi => by
    match i, hi with
    | 0, _ => rfl
    | 1, _ => rfl
    | 2, _ => rfl
    | 3, _ => rfl⟩
  intro j hj
  have := (((((hr.set 0 (.int .u8 (b0 : Nat))).set 1 (.int .u8 (b1 : Nat))).set 2 (.int .u8 (b2 : Nat))).set 3 (.int .u8 (b3 : Nat))).drew).cell hj
  rw [this]
  rcases (show j = 0 ∨ j = 1 ∨ j = 2 ∨ j = 3 by omega) with rfl | rfl | rfl | rfl <;> simp [sel4, nth]
theorem cphS_sub {w : World} {g : Nat} {b kk : Nat → Nat} (h : w.rowIs g 36 753 (cphF sb b kk)) {j : Nat} (hj : j < 256) : w.cell? ⟨g, 1 + j, none⟩ = some (.int .u8 (sb j : Nat)) := by
  rw [World.rowIs.cell h (by omega)]
  unfold cphF
  rw [if_neg (by omega), if_pos (by omega), show 1 + j - 1 = j by omega]

theorem idx4f (f : Nat → Nat) (k : Nat) (hk : k < 4) (W : World) : (Instr.index 76 (.agg #[.int .u8 (f 0 : Nat), .int .u8 (f 1 : Nat), .int .u8 (f 2 : Nat), .int .u8 (f 3 : Nat)]) (.int .i64 (k : Int))).run Try.prog W = .ok (.int .u8 (f k : Nat)) W := by
  have h := idx4 (f 0) (f 1) (f 2) (f 3) k hk W
  have e : sel4 (f 0) (f 1) (f 2) (f 3) k = f k := by
    rcases (show k = 0 ∨ k = 1 ∨ k = 2 ∨ k = 3 by omega) with rfl | rfl | rfl | rfl <;> simp [sel4, nth]
  rw [e] at h
  exact h
theorem sel4_lt {a0 a1 a2 a3 : Nat} (h0 : a0 < 256) (h1 : a1 < 256) (h2 : a2 < 256) (h3 : a3 < 256) (k : Nat) : sel4 a0 a1 a2 a3 k < 256 :=
  nth_lt (by intro x hx; simp at hx; rcases hx with rfl | rfl | rfl | rfl <;> assumption) k
theorem nth_app_l {l m : List Nat} {i : Nat} (h : i < l.length) : nth (l ++ m) i = nth l i := by
  unfold nth
  rw [List.getD_eq_getElem?_getD, List.getD_eq_getElem?_getD, List.getElem?_append_left h]
theorem nth_part {l : List Nat} {k n i : Nat} (hi : i < n) : nth ((l.drop k).take n) i = nth l (k + i) := by
  simp [nth, List.getElem?_take, List.getElem?_drop, hi]
theorem selT0 (l : List Nat) (p n : Nat) (h : n % 8 = 0) : ∀ j, j < 4 → sel4 (sb (nth l (4 * n - 4 + 1)) ^^^ p) (sb (nth l (4 * n - 4 + 2))) (sb (nth l (4 * n - 4 + 3))) (sb (nth l (4 * n - 4 + 0))) j = ksT l p n j := by
  intro j hj
  unfold ksT
  rw [if_pos h]
  rcases (show j = 0 ∨ j = 1 ∨ j = 2 ∨ j = 3 by omega) with rfl | rfl | rfl | rfl <;> simp [sel4, nth]
theorem selT4 (l : List Nat) (p n : Nat) (h : n % 8 = 4) : ∀ j, j < 4 → sel4 (sb (nth l (4 * n - 4 + 0))) (sb (nth l (4 * n - 4 + 1))) (sb (nth l (4 * n - 4 + 2))) (sb (nth l (4 * n - 4 + 3))) j = ksT l p n j := by
  intro j hj
  unfold ksT
  rw [if_neg (by omega), if_pos h]
  rcases (show j = 0 ∨ j = 1 ∨ j = 2 ∨ j = 3 by omega) with rfl | rfl | rfl | rfl <;> simp [sel4, nth]
theorem selTn (l : List Nat) (p n : Nat) (h : ¬ n % 8 = 0) (h' : ¬ n % 8 = 4) : ∀ j, j < 4 → sel4 (nth l (4 * n - 4 + 0)) (nth l (4 * n - 4 + 1)) (nth l (4 * n - 4 + 2)) (nth l (4 * n - 4 + 3)) j = ksT l p n j := by
  intro j hj
  unfold ksT
  rw [if_neg h, if_neg h']
  rcases (show j = 0 ∨ j = 1 ∨ j = 2 ∨ j = 3 by omega) with rfl | rfl | rfl | rfl <;> simp [sel4, nth]
end Go.Proofs.Ytmldpamkghdohaa
