/-
  THE CHAPTER's EXAMPLE OF AES, by the kernel's own run: the functions of the walks, in a form that the kernel runs fast. Conditions: none.
-/
import Derived.Test.YtmldpamkghdohaaAesW7a
import Derived.Test.YtmldpamkghdohaaAesW8
namespace Go.Proofs.Ytmldpamkghdohaa
set_option linter.unusedSimpArgs false

/-- The kernel reckons every element before it goes on. -/
def forceL {α : Type} : List Nat → (List Nat → α) → α
  | [], k => k []
  | x :: xs, k => force x fun y => forceL xs fun ys => k (y :: ys)
theorem forceL_eq {α : Type} (l : List Nat) : ∀ (k : List Nat → α), forceL l k = k l := by
  induction l with
  | nil => intro k; rfl
  | cons x xs ih => intro k; rw [forceL, force_eq, ih]
def ksE : Nat → List Nat → Nat → Nat → List Nat
  | 0, l, _, _ => l
  | f + 1, l, p, i => forceL (ksA l p i) fun l' => force (if i % 8 = 0 then tm p 2 else p) fun p' => ksE f l' p' (i + 1)
theorem ksE_eq (f : Nat) : ∀ l p i, ksE f l p i = ksF f l p i := by
  induction f with
  | zero => intros; rfl
  | succ f ih => intro l p i; rw [ksE, forceL_eq, force_eq, ih]; rfl
def encLs (kb : List Nat) (r : Nat) (l : List Nat) : List Nat :=
  forceL ((List.range 16).map (encT (nth l))) fun t => (List.range 16).map fun i => (if r < 14 then mixF (nth t) 2 3 1 1 i else nth t i) ^^^ nth kb (r * 16 + i)
def encLn (kb : List Nat) : Nat → Nat → List Nat → List Nat
  | 0, _, l => l
  | f + 1, r, l => forceL (encLs kb r l) fun l' => encLn kb f (r + 1) l'
def encL (key blk : List Nat) : List Nat := forceL (ksE 52 key 1 8) fun kb => forceL ((List.range 16).map fun i => nth blk i ^^^ nth kb i) fun l => encLn kb 14 1 l
theorem nth_map16 (f : Nat → Nat) {i : Nat} (h : i < 16) : nth ((List.range 16).map f) i = f i := by
  simp [nth, h]
theorem mixF_congr {s t : Nat → Nat} (h : ∀ i, i < 16 → s i = t i) (a b c d : Nat) {i : Nat} (hi : i < 16) : mixF s a b c d i = mixF t a b c d i := by
  unfold mixF
  rw [h _ (by omega), h _ (mix_ix hi), h _ (mix_ix hi), h _ (mix_ix hi)]
theorem encS_congr {kb s t : Nat → Nat} (h : ∀ i, i < 16 → s i = t i) (r : Nat) {i : Nat} (hi : i < 16) : encS kb r s i = encS kb r t i := by
  have he : ∀ i, i < 16 → encT s i = encT t i := fun i _ => by unfold encT; rw [h _ (pe_lt i)]
  unfold encS
  rw [mixF_congr he 2 3 1 1 hi, he i hi]
theorem encLs_nth (kb : List Nat) (r : Nat) (l : List Nat) {i : Nat} (hi : i < 16) : nth (encLs kb r l) i = encS (nth kb) r (nth l) i := by
  unfold encLs encS
  rw [forceL_eq, nth_map16 _ hi, mixF_congr (fun j hj => nth_map16 _ hj) 2 3 1 1 hi, nth_map16 _ hi]
theorem encLn_nth (kb : List Nat) (s : Nat → Nat) (f : Nat) : ∀ (n : Nat) (l : List Nat), (∀ i, i < 16 → nth l i = encN (nth kb) s n i) → ∀ i, i < 16 → nth (encLn kb f (n + 1) l) i = encN (nth kb) s (n + f) i := by
  induction f with
  | zero => intro n l h i hi; exact h i hi
  | succ f ih =>
    intro n l h i hi
    rw [encLn, forceL_eq, ih (n + 1) _ (fun j hj => ?_) i hi, show n + 1 + f = n + (f + 1) by omega]
    rw [encLs_nth _ _ _ hj]
    exact encS_congr h _ hj
theorem encL_nth (key blk : List Nat) {i : Nat} (hi : i < 16) : nth (encL key blk) i = encN (nth (ks key)) (nth blk) 14 i := by
  unfold encL
  rw [forceL_eq, forceL_eq, ksE_eq]
  have := encLn_nth (ks key) (nth blk) 14 0 ((List.range 16).map fun i => nth blk i ^^^ nth (ks key) i) (fun j hj => nth_map16 _ hj) i hi
  rw [Nat.zero_add, Nat.zero_add] at this
  exact this
def exampleL : List Nat := [142, 162, 183, 202, 81, 103, 69, 191, 234, 252, 73, 144, 75, 73, 96, 137]
theorem example_enc : encL (rowL 0 1 32) (rowL 0 17 16) = exampleL := by decide +kernel
theorem example_tm : tm 87 131 = 193 := by decide +kernel
theorem example_sb : sb 83 = 237 := by decide +kernel
theorem example_bk : bk 237 = 83 := by decide +kernel
theorem example_row : (List.range 16).map (encN (nth (ks (rowL 0 1 32))) (nth (rowL 0 17 16)) 14) = exampleL := by
  have h : (List.range 16).map (encN (nth (ks (rowL 0 1 32))) (nth (rowL 0 17 16)) 14) = (List.range 16).map (nth exampleL) := by
    apply List.map_congr_left
    intro i hi
    rw [← encL_nth _ _ (by simpa using hi), example_enc]
  rw [h]
  decide
end Go.Proofs.Ytmldpamkghdohaa
