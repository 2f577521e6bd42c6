/-
  PLAIN MATHEMATICS FOR THE AES CHAPTER. Conditions: none; no program in sight. The field's product, inverse, the table and its inverse, as functions on natural numbers; their laws: by linearity and the kernel's run over a basis, or over all bytes.
-/
import Derived.Laws.BitsAllLaws
namespace Go.Proofs.Ytmldpamkghdohaa

/-- The kernel reckons x before it goes on. -/
def force {α : Type} (x : Nat) (k : Nat → α) : α := Nat.rec (k 0) (fun n _ => k (Nat.succ n)) x
theorem force_eq {α : Type} (x : Nat) (k : Nat → α) : force x k = k x := by cases x <;> rfl

/-- The product of two bytes, bit by bit of the second. -/
def xt (a : Nat) : Nat := (a * 2 % 256) ^^^ (27 * (a / 128))
def tmF : Nat → Nat → Nat → Nat → Nat
  | 0, p, _, _ => p
  | f + 1, p, a, b => force (p ^^^ (a * (b % 2))) fun p' => force (xt a) fun a' => force (b / 2) fun b' => tmF f p' a' b'
def tm (a b : Nat) : Nat := tmF 8 0 a b
theorem tmF_succ (f p a b : Nat) : tmF (f + 1) p a b = tmF f (p ^^^ (a * (b % 2))) (xt a) (b / 2) := by
  rw [tmF]; simp only [force_eq]

theorem tmF_zero (f p a : Nat) : tmF f p a 0 = p := by
  induction f generalizing p a with
  | zero => rfl
  | succ f ih => simp [tmF_succ, ih]
theorem and128 (a : Nat) (ha : a < 256) : (a &&& 128) = if 128 ≤ a then 128 else 0 := by
  have := nat_bit 7 a
  simp at this
  rw [this]
  split <;> omega
theorem xor_lt8 {a b : Nat} (ha : a < 256) (hb : b < 256) : a ^^^ b < 256 := Nat.xor_lt_two_pow (n := 8) ha hb
theorem or_lt8 {a b : Nat} (ha : a < 256) (hb : b < 256) : a ||| b < 256 := Nat.or_lt_two_pow (n := 8) ha hb
theorem xt_lt {a : Nat} (ha : a < 256) : xt a < 256 := xor_lt8 (by omega) (by omega)
theorem xt_hi {a : Nat} (ha : a < 256) (h : 128 ≤ a) : xt a = (a * 2 % 256) ^^^ 27 := by
  unfold xt
  rw [show a / 128 = 1 by omega]
theorem xt_lo {a : Nat} (h : ¬ 128 ≤ a) : xt a = a * 2 := by
  unfold xt
  rw [show a / 128 = 0 by omega, show a * 2 % 256 = a * 2 by omega]
  simp

theorem tmF_lt (f : Nat) : ∀ p a b, p < 256 → a < 256 → tmF f p a b < 256 := by
  induction f with
  | zero => intro p a b hp _; exact hp
  | succ f ih =>
    intro p a b hp ha
    rw [tmF_succ]
    refine ih _ _ _ (xor_lt8 hp ?_) (xt_lt ha)
    rcases Nat.mod_two_eq_zero_or_one b with h | h <;> rw [h] <;> omega
theorem tm_lt (a b : Nat) (ha : a < 256) : tm a b < 256 := tmF_lt 8 0 a b (by omega) ha

/-! ### Linearity -/
theorem xor_div2 (a b : Nat) : (a ^^^ b) / 2 = a / 2 ^^^ b / 2 := by
  simpa [Nat.shiftRight_eq_div_pow] using Nat.shiftRight_xor_distrib (a := a) (b := b) (i := 1)
theorem xor_mod2 (a b : Nat) : (a ^^^ b) % 2 = (a % 2) ^^^ (b % 2) := by
  simpa using Nat.xor_mod_two_pow (a := a) (b := b) (n := 1)
theorem mul_bit (a b c : Nat) : a * ((b % 2) ^^^ (c % 2)) = (a * (b % 2)) ^^^ (a * (c % 2)) := by
  rcases Nat.mod_two_eq_zero_or_one b with h | h <;> rcases Nat.mod_two_eq_zero_or_one c with k | k <;> simp [h, k]
theorem xor4 (a b c d : Nat) : (a ^^^ b) ^^^ (c ^^^ d) = (a ^^^ c) ^^^ (b ^^^ d) := by
  rw [Nat.xor_assoc, Nat.xor_assoc, ← Nat.xor_assoc b, Nat.xor_comm b c, Nat.xor_assoc c]
theorem tmF_acc (f : Nat) : ∀ p q a b, tmF f (p ^^^ q) a b = p ^^^ tmF f q a b := by
  induction f with
  | zero => intro p q a b; rfl
  | succ f ih =>
    intro p q a b
    rw [tmF_succ, tmF_succ, Nat.xor_assoc, ih]
theorem tmF_linr (f : Nat) : ∀ p q a b c, tmF f (p ^^^ q) a (b ^^^ c) = tmF f p a b ^^^ tmF f q a c := by
  induction f with
  | zero => intro p q a b c; rfl
  | succ f ih =>
    intro p q a b c
    rw [tmF_succ, tmF_succ, tmF_succ, xor_mod2, mul_bit, xor4, xor_div2, ih]
theorem tm_linr (a b c : Nat) : tm a (b ^^^ c) = tm a b ^^^ tm a c := tmF_linr 8 0 0 a b c
theorem xor_mul2 (a b : Nat) : (a ^^^ b) * 2 = a * 2 ^^^ b * 2 := by
  have := Nat.shiftLeft_xor_distrib (a := a) (b := b) (i := 1)
  simpa [Nat.shiftLeft_eq] using this
theorem xor_mod256 (a b : Nat) : (a ^^^ b) % 256 = (a % 256) ^^^ (b % 256) := by
  simpa using Nat.xor_mod_two_pow (a := a) (b := b) (n := 8)
theorem xor_div128 (a b : Nat) : (a ^^^ b) / 128 = a / 128 ^^^ b / 128 := by
  simpa [Nat.shiftRight_eq_div_pow] using Nat.shiftRight_xor_distrib (a := a) (b := b) (i := 7)
theorem xt_lin {a b : Nat} (ha : a < 256) (hb : b < 256) : xt (a ^^^ b) = xt a ^^^ xt b := by
  unfold xt
  rw [xor_mul2, xor_mod256, xor_div128]
  have h1 : a / 128 = a / 128 % 2 := by omega
  have h2 : b / 128 = b / 128 % 2 := by omega
  rw [h1, h2, mul_bit, xor4]
theorem mul_bitl (a d b : Nat) : (a ^^^ d) * (b % 2) = (a * (b % 2)) ^^^ (d * (b % 2)) := by
  rcases Nat.mod_two_eq_zero_or_one b with h | h <;> simp [h]
theorem tmF_linl (f : Nat) : ∀ p q a d b, a < 256 → d < 256 → tmF f (p ^^^ q) (a ^^^ d) b = tmF f p a b ^^^ tmF f q d b := by
  induction f with
  | zero => intro p q a d b _ _; rfl
  | succ f ih =>
    intro p q a d b ha hd
    rw [tmF_succ, tmF_succ, tmF_succ, mul_bitl, xor4, xt_lin ha hd, ih _ _ _ _ _ (xt_lt ha) (xt_lt hd)]
theorem tm_linl {a d : Nat} (b : Nat) (ha : a < 256) (hd : d < 256) : tm (a ^^^ d) b = tm a b ^^^ tm d b := tmF_linl 8 0 0 a d b ha hd

theorem pow_xor {k c : Nat} (h : c < 2 ^ k) : 2 ^ k ^^^ c = 2 ^ k + c := by
  have h1 : c = c % 2 ^ k := (Nat.mod_eq_of_lt h).symm
  apply Nat.eq_of_testBit_eq
  intro i
  rw [Nat.testBit_xor, Nat.testBit_two_pow]
  rcases Nat.lt_trichotomy i k with hi | hi | hi
  · rw [Nat.testBit_two_pow_add_gt hi, show decide (k = i) = false from by simp; omega]
    simp
  · subst hi
    rw [Nat.testBit_two_pow_add_eq, Nat.testBit_lt_two_pow h]
    simp
  · have e1 : c.testBit i = false := Nat.testBit_lt_two_pow (Nat.lt_of_lt_of_le h (Nat.pow_le_pow_right (by omega) (by omega)))
    have e2 : (2 ^ k + c).testBit i = false := Nat.testBit_lt_two_pow (by
      have : 2 ^ (k + 1) ≤ 2 ^ i := Nat.pow_le_pow_right (by omega) (by omega)
      rw [Nat.pow_succ] at this
      omega)
    rw [e1, e2, show decide (k = i) = false from by simp; omega]
    rfl
/-- Two functions that respect xor and agree on the eight bits agree on all bytes. -/
theorem lin_ext {f g : Nat → Nat} (hf : ∀ x y, x < 256 → y < 256 → f (x ^^^ y) = f x ^^^ f y) (hg : ∀ x y, x < 256 → y < 256 → g (x ^^^ y) = g x ^^^ g y)
    (h : ∀ i, i < 8 → f (2 ^ i) = g (2 ^ i)) : ∀ b, b < 256 → f b = g b := by
  have f0 : f 0 = 0 := by have := hf 0 0 (by omega) (by omega); simpa using this
  have g0 : g 0 = 0 := by have := hg 0 0 (by omega) (by omega); simpa using this
  have key : ∀ k, k ≤ 8 → ∀ b, b < 2 ^ k → f b = g b := by
    intro k
    induction k with
    | zero =>
      intro _ b hb
      have : b = 0 := by simpa using hb
      subst this
      rw [f0, g0]
    | succ k ih =>
      intro hk b hb
      rcases Nat.lt_or_ge b (2 ^ k) with hlt | hge
      · exact ih (by omega) b hlt
      · have hle : 2 ^ k ≤ 2 ^ 7 := Nat.pow_le_pow_right (by omega) (by omega)
        rw [Nat.pow_succ] at hb
        have hc : b - 2 ^ k < 2 ^ k := by omega
        have e : b = 2 ^ k ^^^ (b - 2 ^ k) := by rw [pow_xor hc]; omega
        rw [e, hf _ _ (by omega) (by omega), hg _ _ (by omega) (by omega), h k (by omega), ih (by omega) _ hc]
  exact fun b hb => key 8 (by omega) b hb
theorem tm_zero_l (b : Nat) : tm 0 b = 0 := by
  have := tm_linl (a := 0) (d := 0) b (by omega) (by omega)
  simpa using this
theorem tm_zero (a : Nat) : tm a 0 = 0 := tmF_zero 8 0 a

/-- A test of all numbers below n, as the kernel runs it fast. -/
def allB (f : Nat → Bool) : Nat → Bool
  | 0 => true
  | n + 1 => if f n then allB f n else false
theorem allB_at {f : Nat → Bool} : ∀ {n : Nat}, allB f n = true → ∀ i, i < n → f i = true
  | 0, _, i, hi => absurd hi (by omega)
  | n + 1, h, i, hi => by
    unfold allB at h
    split at h
    · rename_i hn
      rcases Nat.lt_or_ge i n with hlt | hge
      · exact allB_at h i hlt
      · have : i = n := by omega
        subst this
        exact hn
    · cases h
theorem comm_basis : allB (fun i => allB (fun j => Nat.beq (tm (2 ^ i) (2 ^ j)) (tm (2 ^ j) (2 ^ i))) 8) 8 = true := by decide +kernel
theorem pow_lt8 {i : Nat} (h : i < 8) : 2 ^ i < 256 := by
  have : 2 ^ i ≤ 2 ^ 7 := Nat.pow_le_pow_right (by omega) (by omega)
  omega
theorem tm_comm {a b : Nat} (ha : a < 256) (hb : b < 256) : tm a b = tm b a := by
  refine lin_ext (f := fun b => tm a b) (g := fun b => tm b a) (fun x y _ _ => tm_linr a x y) (fun x y hx hy => tm_linl a hx hy) (fun i hi => ?_) b hb
  refine lin_ext (f := fun a => tm a (2 ^ i)) (g := fun a => tm (2 ^ i) a) (fun x y hx hy => tm_linl _ hx hy) (fun x y _ _ => tm_linr _ x y) (fun j hj => ?_) a ha
  have := allB_at (allB_at comm_basis i hi) j hj
  exact (Nat.eq_of_beq_eq_true this).symm
theorem assoc_basis : allB (fun i => allB (fun j => allB (fun k => Nat.beq (tm (2 ^ i) (tm (2 ^ j) (2 ^ k))) (tm (tm (2 ^ i) (2 ^ j)) (2 ^ k))) 8) 8) 8 = true := by decide +kernel
theorem tm_assoc {a b c : Nat} (ha : a < 256) (hb : b < 256) (hc : c < 256) : tm a (tm b c) = tm (tm a b) c := by
  refine lin_ext (f := fun c => tm a (tm b c)) (g := fun c => tm (tm a b) c) (fun x y _ _ => by simp only [tm_linr]) (fun x y _ _ => tm_linr _ x y) (fun k hk => ?_) c hc
  refine lin_ext (f := fun b => tm a (tm b (2 ^ k))) (g := fun b => tm (tm a b) (2 ^ k)) (fun x y hx hy => by simp only [tm_linl _ hx hy, tm_linr])
    (fun x y hx hy => by simp only [tm_linr, tm_linl _ (tm_lt a x ha) (tm_lt a y ha)]) (fun j hj => ?_) b hb
  refine lin_ext (f := fun a => tm a (tm (2 ^ j) (2 ^ k))) (g := fun a => tm (tm a (2 ^ j)) (2 ^ k)) (fun x y hx hy => tm_linl _ hx hy)
    (fun x y hx hy => by simp only [tm_linl _ hx hy, tm_linl _ (tm_lt x _ hx) (tm_lt y _ hy)]) (fun i hi => ?_) a ha
  have := allB_at (allB_at (allB_at assoc_basis i hi) j hj) k hk
  exact Nat.eq_of_beq_eq_true this
theorem tm_one {a : Nat} (ha : a < 256) : tm a 1 = a := by
  refine lin_ext (f := fun a => tm a 1) (g := fun a => a) (fun x y hx hy => tm_linl _ hx hy) (fun x y _ _ => rfl) (fun i hi => ?_) a ha
  have h : allB (fun i => Nat.beq (tm (2 ^ i) 1) (2 ^ i)) 8 = true := by decide +kernel
  exact Nat.eq_of_beq_eq_true (allB_at h i hi)
theorem tm_xor {a b c : Nat} : tm a (b ^^^ c) = tm a b ^^^ tm a c := tm_linr a b c
end Go.Proofs.Ytmldpamkghdohaa
