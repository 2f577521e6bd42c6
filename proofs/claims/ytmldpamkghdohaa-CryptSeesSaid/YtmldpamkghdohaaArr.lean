/-
  '==' BETWEEN TWO ARRAYS OF BYTES. Conditions: the arrays have as many cells as their type says, each a byte.
-/
import Derived.Test.YtmldpamkghdohaaProg
import Derived.WalkKit
import Derived.Laws.StructEq
namespace Go.Proofs.Ytmldpamkghdohaa
open Go.RowKit
set_option linter.unusedSimpArgs false
set_option linter.unusedVariables false

/-- Are the first n places the same? -/
def sameN (f g : Nat → Nat) (n : Nat) : Bool := (List.range n).all fun i => f i == g i
theorem sameN_iff (f g : Nat → Nat) (n : Nat) : sameN f g n = true ↔ ∀ i, i < n → f i = g i := by simp [sameN]
def eqFrom (f g : Nat → Nat) : Nat → Nat → Bool
  | _, 0 => true
  | k, m + 1 => if f k = g k then eqFrom f g (k + 1) m else false
theorem eqFrom_iff (f g : Nat → Nat) (m : Nat) : ∀ k, eqFrom f g k m = true ↔ ∀ i, i < m → f (k + i) = g (k + i) := by
  induction m with
  | zero => intro k; simp [eqFrom]
  | succ m ih =>
    intro k
    unfold eqFrom
    constructor
    · intro h i hi
      split at h
      · rename_i e
        rcases Nat.eq_zero_or_pos i with h0 | h0
        · subst h0; exact e
        · have := (ih (k + 1)).1 h (i - 1) (by omega)
          rwa [show k + 1 + (i - 1) = k + i by omega] at this
      · cases h
    · intro h
      rw [if_pos (by simpa using h 0 (by omega)), ih]
      intro i hi
      have := h (i + 1) (by omega)
      rwa [show k + (i + 1) = k + 1 + i by omega] at this
theorem eqFrom_same (f g : Nat → Nat) (n : Nat) : eqFrom f g 0 n = sameN f g n := by
  rw [Bool.eq_iff_iff, eqFrom_iff, sameN_iff]
  simp
theorem run_equalIn_bytes (w : World) (d t n : Nat) (xs ys : Array Value) (f g : Nat → Nat) (ht : Try.prog.underlying t = some (.array n 5))
    (hx : ∀ i, i < n → xs[i]? = some (.int .u8 (f i : Nat))) (hy : ∀ i, i < n → ys[i]? = some (.int .u8 (g i : Nat))) :
    (Op.equalIn (d + 2) t (.agg xs) (.agg ys)).run Try.prog w = .ok (sameN f g n) w := by
  have hs : ∀ W, (sizeOf 5).run Try.prog W = .ok 1 W := fun W => by kernel_rfl
  have ha : ∀ W, (isAgg 5).run Try.prog W = .ok false W := fun W => by kernel_rfl
  have he : ∀ (W : World) (a b : Nat), (Op.equalIn (d + 1) 5 (.int .u8 (a : Nat)) (.int .u8 (b : Nat))).run Try.prog W = .ok ((a : Int) == (b : Int)) W := fun W a b => run_equalIn_int W d 5 .u8 .u8 _ _ Try.underlying5
  rw [← eqFrom_same]
  rw [Op.equalIn]
  simp only [Sem.run_bind, run_underlying ht, Result.andThen_ok, hs, Nat.mul_one]
  simp only [Std.Legacy.Range.forIn_eq_forIn_range', Std.Legacy.Range.size, Nat.sub_zero, Nat.add_sub_cancel, Nat.div_one]
  have key : ∀ m k, k + m = n → ∀ W, ((forIn (List.range' k m) ((none, ()) : Option Bool × Unit) fun i _ => do
      let u ← part 5 xs i
      let v ← part 5 ys i
      let b ← Op.equalIn (d + 1) 5 u v
      if (!b) = true then pure (ForInStep.done (some false, ())) else pure (ForInStep.yield (none, ()))) : Sem (Option Bool × Unit)).run Try.prog W =
      .ok (if eqFrom f g k m then (none, ()) else (some false, ())) W := by
    intro m
    induction m with
    | zero => intro k _ W; rfl
    | succ m ih =>
      intro k hk W
      have p1 : (part 5 xs k).run Try.prog W = .ok (.int .u8 (f k : Nat)) W := by simp [part, Sem.run_bind, ha, hx k (by omega)]
      have p2 : (part 5 ys k).run Try.prog W = .ok (.int .u8 (g k : Nat)) W := by simp [part, Sem.run_bind, ha, hy k (by omega)]
      rw [List.range'_succ, List.forIn_cons]
      simp only [Sem.run_bind, p1, p2, he, Result.andThen_ok]
      by_cases e : f k = g k
      · have eb : ((f k : Int) == (g k : Int)) = true := by rw [e]; simp
        simp only [eb, Bool.not_true, Bool.false_eq_true, if_false, Sem.run_pure, Result.andThen_ok, Nat.mul_one, Nat.add_zero]
        rw [eqFrom, if_pos e]
        exact ih (k + 1) (by omega) W
      · have eb : ((f k : Int) == (g k : Int)) = false := by rw [beq_eq_false_iff_ne]; omega
        simp only [eb, Bool.not_false, if_true, Sem.run_pure, Result.andThen_ok]
        rw [eqFrom, if_neg e]
        rfl
  rw [key n 0 (by omega) w]
  cases eqFrom f g 0 n <;> rfl
end Go.Proofs.Ytmldpamkghdohaa
