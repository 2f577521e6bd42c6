/-
  PLAIN MATHEMATICS FOR THE AES CHAPTER. Conditions: none; no program in sight. The field's product, inverse, the table and its inverse, as functions on natural numbers; their laws: by linearity and the kernel's run over a basis, or over all bytes.
  PLAIN MATHEMATICS FOR THE AES CHAPTER, the second part: the reference's product, the inverse, Sub and Back. Conditions: none.
  THE WALKS OF THE AES CHAPTER's SCALAR FUNCTIONS: each Go function computes the plain function of the same name. Conditions: the arguments are bytes.
-/
import Derived.Laws.BitsAllLaws
import Derived.Test.YtlhbijpmhokmnaaGreatProg
import Derived.WalkKit
import Derived.WalkSpells
import Derived.WalkLawsBesides
import Derived.Lib.Hide
import Derived.Outline
namespace Go.Proofs.YtlhbijpmhokmnaaGreat

/-- The kernel reckons x before it goes on. -/
def force {α : Type} (x : Nat) (k : Nat → α) : α := Nat.rec (k 0) (fun n _ => k (Nat.succ n)) x
theorem force_eq {α : Type} (x : Nat) (k : Nat → α) : force x k = k x := by cases x <;> rfl

/-- The product of two bytes, bit by bit of the second. -/
def xt (a : Nat) : Nat := (a * 2 % 256) ^^^ (27 * (a / 128))
def tmF : Nat → Nat → Nat → Nat → Nat
  | 0, p, _, _ => p
  | f + 1, p, a, b => force (p ^^^ (a * (b % 2))) fun p' => force (xt a) fun a' => force (b / 2) fun b' => tmF f p' a' b'
def tm (a b : Nat) : Nat := tmF 8 0 a b
theorem tmF_succ (f p a b : Nat) : tmF (f + 1) p a b = tmF f (p ^^^ (a * (b % 2))) (xt a) (b / 2) := by
  rw [tmF]; simp only [force_eq]

theorem tmF_zero (f p a : Nat) : tmF f p a 0 = p := by
  induction f generalizing p a with
  | zero => rfl
  | succ f ih => simp [tmF_succ, ih]
theorem and128 (a : Nat) (ha : a < 256) : (a &&& 128) = if 128 ≤ a then 128 else 0 := by
  have := nat_bit 7 a
  simp at this
  rw [this]
  split <;> omega
theorem xor_lt8 {a b : Nat} (ha : a < 256) (hb : b < 256) : a ^^^ b < 256 := Nat.xor_lt_two_pow (n := 8) ha hb
theorem or_lt8 {a b : Nat} (ha : a < 256) (hb : b < 256) : a ||| b < 256 := Nat.or_lt_two_pow (n := 8) ha hb
theorem xt_lt {a : Nat} (ha : a < 256) : xt a < 256 := xor_lt8 (by omega) (by omega)
theorem xt_hi {a : Nat} (ha : a < 256) (h : 128 ≤ a) : xt a = (a * 2 % 256) ^^^ 27 := by
  unfold xt
  rw [show a / 128 = 1 by omega]
theorem xt_lo {a : Nat} (h : ¬ 128 ≤ a) : xt a = a * 2 := by
  unfold xt
  rw [show a / 128 = 0 by omega, show a * 2 % 256 = a * 2 by omega]
  simp

theorem tmF_lt (f : Nat) : ∀ p a b, p < 256 → a < 256 → tmF f p a b < 256 := by
  induction f with
  | zero => intro p a b hp _; exact hp
  | succ f ih =>
    intro p a b hp ha
    rw [tmF_succ]
    refine ih _ _ _ (xor_lt8 hp ?_) (xt_lt ha)
    rcases Nat.mod_two_eq_zero_or_one b with h | h <;> rw [h] <;> omega
theorem tm_lt (a b : Nat) (ha : a < 256) : tm a b < 256 := tmF_lt 8 0 a b (by omega) ha

/-! ### Linearity -/
theorem xor_div2 (a b : Nat) : (a ^^^ b) / 2 = a / 2 ^^^ b / 2 := by
  simpa [Nat.shiftRight_eq_div_pow] using Nat.shiftRight_xor_distrib (a := a) (b := b) (i := 1)
theorem xor_mod2 (a b : Nat) : (a ^^^ b) % 2 = (a % 2) ^^^ (b % 2) := by
  simpa using Nat.xor_mod_two_pow (a := a) (b := b) (n := 1)
theorem mul_bit (a b c : Nat) : a * ((b % 2) ^^^ (c % 2)) = (a * (b % 2)) ^^^ (a * (c % 2)) := by
  rcases Nat.mod_two_eq_zero_or_one b with h | h <;> rcases Nat.mod_two_eq_zero_or_one c with k | k <;> simp [h, k]
theorem xor4 (a b c d : Nat) : (a ^^^ b) ^^^ (c ^^^ d) = (a ^^^ c) ^^^ (b ^^^ d) := by
  rw [Nat.xor_assoc, Nat.xor_assoc, ← Nat.xor_assoc b, Nat.xor_comm b c, Nat.xor_assoc c]
theorem tmF_acc (f : Nat) : ∀ p q a b, tmF f (p ^^^ q) a b = p ^^^ tmF f q a b := by
  induction f with
  | zero => intro p q a b; rfl
  | succ f ih =>
    intro p q a b
    rw [tmF_succ, tmF_succ, Nat.xor_assoc, ih]
theorem tmF_linr (f : Nat) : ∀ p q a b c, tmF f (p ^^^ q) a (b ^^^ c) = tmF f p a b ^^^ tmF f q a c := by
  induction f with
  | zero => intro p q a b c; rfl
  | succ f ih =>
    intro p q a b c
    rw [tmF_succ, tmF_succ, tmF_succ, xor_mod2, mul_bit, xor4, xor_div2, ih]
theorem tm_linr (a b c : Nat) : tm a (b ^^^ c) = tm a b ^^^ tm a c := tmF_linr 8 0 0 a b c
theorem xor_mul2 (a b : Nat) : (a ^^^ b) * 2 = a * 2 ^^^ b * 2 := by
  have := Nat.shiftLeft_xor_distrib (a := a) (b := b) (i := 1)
  simpa [Nat.shiftLeft_eq] using this
theorem xor_mod256 (a b : Nat) : (a ^^^ b) % 256 = (a % 256) ^^^ (b % 256) := by
  simpa using Nat.xor_mod_two_pow (a := a) (b := b) (n := 8)
theorem xor_div128 (a b : Nat) : (a ^^^ b) / 128 = a / 128 ^^^ b / 128 := by
  simpa [Nat.shiftRight_eq_div_pow] using Nat.shiftRight_xor_distrib (a := a) (b := b) (i := 7)
theorem xt_lin {a b : Nat} (ha : a < 256) (hb : b < 256) : xt (a ^^^ b) = xt a ^^^ xt b := by
  unfold xt
  rw [xor_mul2, xor_mod256, xor_div128]
  have h1 : a / 128 = a / 128 % 2 := by omega
  have h2 : b / 128 = b / 128 % 2 := by omega
  rw [h1, h2, mul_bit, xor4]
theorem mul_bitl (a d b : Nat) : (a ^^^ d) * (b % 2) = (a * (b % 2)) ^^^ (d * (b % 2)) := by
  rcases Nat.mod_two_eq_zero_or_one b with h | h <;> simp [h]
theorem tmF_linl (f : Nat) : ∀ p q a d b, a < 256 → d < 256 → tmF f (p ^^^ q) (a ^^^ d) b = tmF f p a b ^^^ tmF f q d b := by
  induction f with
  | zero => intro p q a d b _ _; rfl
  | succ f ih =>
    intro p q a d b ha hd
    rw [tmF_succ, tmF_succ, tmF_succ, mul_bitl, xor4, xt_lin ha hd, ih _ _ _ _ _ (xt_lt ha) (xt_lt hd)]
theorem tm_linl {a d : Nat} (b : Nat) (ha : a < 256) (hd : d < 256) : tm (a ^^^ d) b = tm a b ^^^ tm d b := tmF_linl 8 0 0 a d b ha hd

theorem pow_xor {k c : Nat} (h : c < 2 ^ k) : 2 ^ k ^^^ c = 2 ^ k + c := by
  have h1 : c = c % 2 ^ k := (Nat.mod_eq_of_lt h).symm
  apply Nat.eq_of_testBit_eq
  intro i
  rw [Nat.testBit_xor, Nat.testBit_two_pow]
  rcases Nat.lt_trichotomy i k with hi | hi | hi
  · rw [Nat.testBit_two_pow_add_gt hi, show decide (k = i) = false from by simp; omega]
    simp
  · subst hi
    rw [Nat.testBit_two_pow_add_eq, Nat.testBit_lt_two_pow h]
    simp
  · have e1 : c.testBit i = false := Nat.testBit_lt_two_pow (Nat.lt_of_lt_of_le h (Nat.pow_le_pow_right (by omega) (by omega)))
    have e2 : (2 ^ k + c).testBit i = false := Nat.testBit_lt_two_pow (by
      have : 2 ^ (k + 1) ≤ 2 ^ i := Nat.pow_le_pow_right (by omega) (by omega)
      rw [Nat.pow_succ] at this
      omega)
    rw [e1, e2, show decide (k = i) = false from by simp; omega]
    rfl
/-- Two functions that respect xor and agree on the eight bits agree on all bytes. -/
theorem lin_ext {f g : Nat → Nat} (hf : ∀ x y, x < 256 → y < 256 → f (x ^^^ y) = f x ^^^ f y) (hg : ∀ x y, x < 256 → y < 256 → g (x ^^^ y) = g x ^^^ g y)
    (h : ∀ i, i < 8 → f (2 ^ i) = g (2 ^ i)) : ∀ b, b < 256 → f b = g b := by
  have f0 : f 0 = 0 := by have := hf 0 0 (by omega) (by omega); simpa using this
  have g0 : g 0 = 0 := by have := hg 0 0 (by omega) (by omega); simpa using this
  have key : ∀ k, k ≤ 8 → ∀ b, b < 2 ^ k → f b = g b := by
    intro k
    induction k with
    | zero =>
      intro _ b hb
      have : b = 0 := by simpa using hb
      subst this
      rw [f0, g0]
    | succ k ih =>
      intro hk b hb
      rcases Nat.lt_or_ge b (2 ^ k) with hlt | hge
      · exact ih (by omega) b hlt
      · have hle : 2 ^ k ≤ 2 ^ 7 := Nat.pow_le_pow_right (by omega) (by omega)
        rw [Nat.pow_succ] at hb
        have hc : b - 2 ^ k < 2 ^ k := by omega
        have e : b = 2 ^ k ^^^ (b - 2 ^ k) := by rw [pow_xor hc]; omega
        rw [e, hf _ _ (by omega) (by omega), hg _ _ (by omega) (by omega), h k (by omega), ih (by omega) _ hc]
  exact fun b hb => key 8 (by omega) b hb
theorem tm_zero_l (b : Nat) : tm 0 b = 0 := by
  have := tm_linl (a := 0) (d := 0) b (by omega) (by omega)
  simpa using this
theorem tm_zero (a : Nat) : tm a 0 = 0 := tmF_zero 8 0 a

/-- A test of all numbers below n, as the kernel runs it fast. -/
def allB (f : Nat → Bool) : Nat → Bool
  | 0 => true
  | n + 1 => if f n then allB f n else false
theorem allB_at {f : Nat → Bool} : ∀ {n : Nat}, allB f n = true → ∀ i, i < n → f i = true
  | 0, _, i, hi => absurd hi (by omega)
  | n + 1, h, i, hi => by
    unfold allB at h
    split at h
    · rename_i hn
      rcases Nat.lt_or_ge i n with hlt | hge
      · exact allB_at h i hlt
      · have : i = n := by omega
        subst this
        exact hn
    · cases h
theorem comm_basis : allB (fun i => allB (fun j => Nat.beq (tm (2 ^ i) (2 ^ j)) (tm (2 ^ j) (2 ^ i))) 8) 8 = true := by decide +kernel
theorem pow_lt8 {i : Nat} (h : i < 8) : 2 ^ i < 256 := by
  have : 2 ^ i ≤ 2 ^ 7 := Nat.pow_le_pow_right (by omega) (by omega)
  omega
theorem tm_comm {a b : Nat} (ha : a < 256) (hb : b < 256) : tm a b = tm b a := by
  refine lin_ext (f := fun b => tm a b) (g := fun b => tm b a) (fun x y _ _ => tm_linr a x y) (fun x y hx hy => tm_linl a hx hy) (fun i hi => ?_) b hb
  refine lin_ext (f := fun a => tm a (2 ^ i)) (g := fun a => tm (2 ^ i) a) (fun x y hx hy => tm_linl _ hx hy) (fun x y _ _ => tm_linr _ x y) (fun j hj => ?_) a ha
  have := allB_at (allB_at comm_basis i hi) j hj
  exact (Nat.eq_of_beq_eq_true this).symm
theorem assoc_basis : allB (fun i => allB (fun j => allB (fun k => Nat.beq (tm (2 ^ i) (tm (2 ^ j) (2 ^ k))) (tm (tm (2 ^ i) (2 ^ j)) (2 ^ k))) 8) 8) 8 = true := by decide +kernel
theorem tm_assoc {a b c : Nat} (ha : a < 256) (hb : b < 256) (hc : c < 256) : tm a (tm b c) = tm (tm a b) c := by
  refine lin_ext (f := fun c => tm a (tm b c)) (g := fun c => tm (tm a b) c) (fun x y _ _ => by simp only [tm_linr]) (fun x y _ _ => tm_linr _ x y) (fun k hk => ?_) c hc
  refine lin_ext (f := fun b => tm a (tm b (2 ^ k))) (g := fun b => tm (tm a b) (2 ^ k)) (fun x y hx hy => by simp only [tm_linl _ hx hy, tm_linr])
    (fun x y hx hy => by simp only [tm_linr, tm_linl _ (tm_lt a x ha) (tm_lt a y ha)]) (fun j hj => ?_) b hb
  refine lin_ext (f := fun a => tm a (tm (2 ^ j) (2 ^ k))) (g := fun a => tm (tm a (2 ^ j)) (2 ^ k)) (fun x y hx hy => tm_linl _ hx hy)
    (fun x y hx hy => by simp only [tm_linl _ hx hy, tm_linl _ (tm_lt x _ hx) (tm_lt y _ hy)]) (fun i hi => ?_) a ha
  have := allB_at (allB_at (allB_at assoc_basis i hi) j hj) k hk
  exact Nat.eq_of_beq_eq_true this
theorem tm_one {a : Nat} (ha : a < 256) : tm a 1 = a := by
  refine lin_ext (f := fun a => tm a 1) (g := fun a => a) (fun x y hx hy => tm_linl _ hx hy) (fun x y _ _ => rfl) (fun i hi => ?_) a ha
  have h : allB (fun i => Nat.beq (tm (2 ^ i) 1) (2 ^ i)) 8 = true := by decide +kernel
  exact Nat.eq_of_beq_eq_true (allB_at h i hi)
theorem tm_xor {a b c : Nat} : tm a (b ^^^ c) = tm a b ^^^ tm a c := tm_linr a b c
end Go.Proofs.YtlhbijpmhokmnaaGreat
namespace Go.Proofs.YtlhbijpmhokmnaaGreat

/-! ### The reference's product -/
def polF : Nat → Nat → Nat → Nat → Nat → Nat
  | 0, _, _, _, p => p
  | f + 1, i, a, b, p => force (p ^^^ (a * 2 ^ i * (b / 2 ^ i % 2))) fun p' => polF f (i + 1) a b p'
def redF : Nat → Nat → Nat
  | 0, p => p
  | f + 1, p => force (p ^^^ (283 * 2 ^ f * (p / 2 ^ (f + 8) % 2))) fun p' => redF f p'
def rtm (a b : Nat) : Nat := redF 7 (polF 8 0 a b 0) % 256
theorem polF_succ (f i a b p : Nat) : polF (f + 1) i a b p = polF f (i + 1) a b (p ^^^ (a * 2 ^ i * (b / 2 ^ i % 2))) := by rw [polF]; simp only [force_eq]
theorem redF_succ (f p : Nat) : redF (f + 1) p = redF f (p ^^^ (283 * 2 ^ f * (p / 2 ^ (f + 8) % 2))) := by rw [redF]; simp only [force_eq]
theorem xor_divp (a b i : Nat) : (a ^^^ b) / 2 ^ i = a / 2 ^ i ^^^ b / 2 ^ i := by
  simpa [Nat.shiftRight_eq_div_pow] using Nat.shiftRight_xor_distrib (a := a) (b := b) (i := i)
theorem xor_mulp (a b i : Nat) : (a ^^^ b) * 2 ^ i = a * 2 ^ i ^^^ b * 2 ^ i := by
  simpa [Nat.shiftLeft_eq] using Nat.shiftLeft_xor_distrib (a := a) (b := b) (i := i)
theorem polF_linr (f : Nat) : ∀ i a b c p q, polF f i a (b ^^^ c) (p ^^^ q) = polF f i a b p ^^^ polF f i a c q := by
  induction f with
  | zero => intros; rfl
  | succ f ih =>
    intro i a b c p q
    rw [polF_succ, polF_succ, polF_succ, xor_divp, xor_mod2, mul_bit, xor4, ih]
theorem polF_linl (f : Nat) : ∀ i a d b p q, polF f i (a ^^^ d) b (p ^^^ q) = polF f i a b p ^^^ polF f i d b q := by
  induction f with
  | zero => intros; rfl
  | succ f ih =>
    intro i a d b p q
    rw [polF_succ, polF_succ, polF_succ, xor_mulp, mul_bitl, xor4, ih]
theorem redF_lin (f : Nat) : ∀ p q, redF f (p ^^^ q) = redF f p ^^^ redF f q := by
  induction f with
  | zero => intros; rfl
  | succ f ih =>
    intro p q
    rw [redF_succ, redF_succ, redF_succ, xor_divp, xor_mod2, mul_bit, xor4, ih]
theorem rtm_linr (a b c : Nat) : rtm a (b ^^^ c) = rtm a b ^^^ rtm a c := by
  unfold rtm
  rw [← xor_mod256, ← redF_lin, ← polF_linr]
  rfl
theorem rtm_linl (a d b : Nat) : rtm (a ^^^ d) b = rtm a b ^^^ rtm d b := by
  unfold rtm
  rw [← xor_mod256, ← redF_lin, ← polF_linl]
  rfl
theorem rtm_basis : allB (fun i => allB (fun j => Nat.beq (rtm (2 ^ i) (2 ^ j)) (tm (2 ^ i) (2 ^ j))) 8) 8 = true := by decide +kernel
theorem rtm_eq {a b : Nat} (ha : a < 256) (hb : b < 256) : rtm a b = tm a b := by
  refine lin_ext (f := fun b => rtm a b) (g := fun b => tm a b) (fun x y _ _ => rtm_linr a x y) (fun x y _ _ => tm_linr a x y) (fun i hi => ?_) b hb
  refine lin_ext (f := fun a => rtm a (2 ^ i)) (g := fun a => tm a (2 ^ i)) (fun x y _ _ => rtm_linl x y _) (fun x y hx hy => tm_linl _ hx hy) (fun j hj => ?_) a ha
  exact Nat.eq_of_beq_eq_true (allB_at (allB_at rtm_basis j hj) i hi)
theorem polF_lt (f : Nat) : ∀ i a b p, a < 256 → p < 2 ^ 16 → i + f ≤ 8 → polF f i a b p < 2 ^ 16 := by
  induction f with
  | zero => intro i a b p _ hp _; exact hp
  | succ f ih =>
    intro i a b p ha hp hi
    rw [polF_succ]
    refine ih _ _ _ _ ha (Nat.xor_lt_two_pow hp ?_) (by omega)
    have h1 : 2 ^ i ≤ 2 ^ 7 := Nat.pow_le_pow_right (by omega) (by omega)
    have h2 : a * 2 ^ i ≤ 255 * 2 ^ 7 := Nat.mul_le_mul (by omega) h1
    rcases Nat.mod_two_eq_zero_or_one (b / 2 ^ i) with h | h <;> rw [h] <;> omega

/-! ### The inverse: the power 254 -/
def invF : Nat → Nat → Nat → Nat → Nat
  | 0, p, _, _ => p
  | f + 1, p, b, e => force (if Nat.beq (e % 2) 1 then tm p b else p) fun p' => force (tm b b) fun b' => invF f p' b' (e / 2)
def inv (b : Nat) : Nat := invF 8 1 b 254
theorem invF_succ (f p b e : Nat) : invF (f + 1) p b e = invF f (if e % 2 = 1 then tm p b else p) (tm b b) (e / 2) := by
  rw [invF]
  simp only [force_eq, Nat.beq_eq]
theorem invF_lt (f : Nat) : ∀ p b e, p < 256 → b < 256 → invF f p b e < 256 := by
  induction f with
  | zero => intro p b e hp _; exact hp
  | succ f ih =>
    intro p b e hp hb
    rw [invF_succ]
    refine ih _ _ _ ?_ (tm_lt _ _ hb)
    split
    · exact tm_lt _ _ hp
    · exact hp
theorem inv_lt {b : Nat} (hb : b < 256) : inv b < 256 := invF_lt 8 1 b 254 (by omega) hb
theorem invF_zero (f p b : Nat) : invF f p b 0 = p := by
  induction f generalizing p b with
  | zero => rfl
  | succ f ih => simp [invF_succ, ih]
theorem inv_all : allB (fun b => if Nat.beq b 0 then Nat.beq (inv b) 0 else Nat.beq (tm (inv b) b) 1) 256 = true := by decide +kernel
theorem inv_zero : inv 0 = 0 := by
  have := allB_at inv_all 0 (by omega)
  simpa [Nat.beq_eq] using this
theorem inv_mul {b : Nat} (hb : b < 256) (h : b ≠ 0) : tm (inv b) b = 1 := by
  have := allB_at inv_all b hb
  simpa [Nat.beq_eq, h] using this
theorem inv_only {x b : Nat} (hx : x < 256) (hb : b < 256) (h : tm x b = 1) : x = inv b := by
  have h0 : b ≠ 0 := by
    rintro rfl
    rw [tm_zero] at h
    cases h
  have h1 : tm (tm x b) (inv b) = tm x (tm b (inv b)) := (tm_assoc hx hb (inv_lt hb)).symm
  rw [h, tm_comm hb (inv_lt hb), inv_mul hb h0, tm_one hx, tm_comm (by omega) (inv_lt hb), tm_one (inv_lt hb)] at h1
  exact h1.symm

/-! ### Sub and Back -/
def rot8 (x k : Nat) : Nat := (x * 2 ^ k % 256) ||| (x / 2 ^ (8 - k))
theorem rot8_lt {x : Nat} (k : Nat) (hx : x < 256) : rot8 x k < 256 :=
  or_lt8 (Nat.mod_lt _ (by omega)) (Nat.lt_of_le_of_lt (Nat.div_le_self _ _) hx)
def sbF : Nat → Nat → Nat → Nat → Nat
  | 0, _, _, s => s
  | f + 1, i, c, s => force (s ^^^ rot8 c i) fun s' => sbF f (i + 1) c s'
theorem sbF_succ (f i c s : Nat) : sbF (f + 1) i c s = sbF f (i + 1) c (s ^^^ rot8 c i) := by rw [sbF]; simp only [force_eq]
def sb (b : Nat) : Nat := force (inv b) fun c => sbF 5 0 c 99
theorem sb_def (b : Nat) : sb b = sbF 5 0 (inv b) 99 := by rw [sb, force_eq]
def bk (b : Nat) : Nat := inv (rot8 b 1 ^^^ rot8 b 3 ^^^ rot8 b 6 ^^^ 5)
theorem sbF_lt (f : Nat) : ∀ i c s, c < 256 → s < 256 → sbF f i c s < 256 := by
  induction f with
  | zero => intro i c s _ hs; exact hs
  | succ f ih => intro i c s hc hs; rw [sbF_succ]; exact ih _ c _ hc (xor_lt8 hs (rot8_lt _ hc))
theorem sb_lt {b : Nat} (hb : b < 256) : sb b < 256 := by rw [sb_def]; exact sbF_lt 5 0 _ _ (inv_lt hb) (by omega)
theorem bk_lt {b : Nat} (hb : b < 256) : bk b < 256 := inv_lt (xor_lt8 (xor_lt8 (xor_lt8 (rot8_lt _ hb) (rot8_lt _ hb)) (rot8_lt _ hb)) (by omega))
theorem bk_sb_all : allB (fun b => Nat.beq (bk (sb b)) b) 256 = true := by decide +kernel
theorem sb_bk_all : allB (fun b => Nat.beq (sb (bk b)) b) 256 = true := by decide +kernel
theorem bk_sb {b : Nat} (hb : b < 256) : bk (sb b) = b := Nat.eq_of_beq_eq_true (allB_at bk_sb_all b hb)
theorem sb_bk {b : Nat} (hb : b < 256) : sb (bk b) = b := Nat.eq_of_beq_eq_true (allB_at sb_bk_all b hb)

/-- The reference's table: the inverse by search, the bits one by one. -/
def rbitF (c i : Nat) : Nat → Nat → Nat → Nat
  | 0, _, bit => bit
  | f + 1, k, bit => force (bit ^^^ (c / 2 ^ ((if Nat.beq k 0 then i else i + 3 + k) % 8) % 2)) fun b' => rbitF c i f (k + 1) b'
theorem rbitF_succ (c i f k bit : Nat) : rbitF c i (f + 1) k bit = rbitF c i f (k + 1) (bit ^^^ (c / 2 ^ ((if k = 0 then i else i + 3 + k) % 8) % 2)) := by
  rw [rbitF]; simp only [force_eq, Nat.beq_eq]
def rsubF (c : Nat) : Nat → Nat → Nat → Nat
  | 0, _, s => s
  | f + 1, i, s => force (s + rbitF c i 5 0 (99 / 2 ^ i % 2) * 2 ^ i) fun s' => rsubF c f (i + 1) s'
theorem rsubF_succ (c f i s : Nat) : rsubF c (f + 1) i s = rsubF c f (i + 1) (s + rbitF c i 5 0 (99 / 2 ^ i % 2) * 2 ^ i) := by rw [rsubF]; simp only [force_eq]
theorem rsub_all : allB (fun b => Nat.beq (rsubF (inv b) 8 0 0) (sb b)) 256 = true := by decide +kernel
theorem rsub_eq {b : Nat} (hb : b < 256) : rsubF (inv b) 8 0 0 = sb b := Nat.eq_of_beq_eq_true (allB_at rsub_all b hb)
theorem rbitF_lt (c i : Nat) (f : Nat) : ∀ k bit, bit < 2 → rbitF c i f k bit < 2 := by
  induction f with
  | zero => intro k bit h; exact h
  | succ f ih =>
    intro k bit h
    rw [rbitF_succ]
    exact ih _ _ (Nat.xor_lt_two_pow (n := 1) h (by omega))
end Go.Proofs.YtlhbijpmhokmnaaGreat
namespace Go.Proofs.YtlhbijpmhokmnaaGreat
open Go.RowKit
set_option linter.unusedSimpArgs false
set_option linter.unusedVariables false

theorem byte_and1 (b : Nat) (hb : b < 256) : bits BinOp.and IntKind.u8 (b : Int) 1 = ((b % 2 : Nat) : Int) := by
  rw [show (1 : Int) = ((1 : Nat) : Int) from rfl, u8_and_nat _ _ hb (by omega), nat_mask1]
theorem byte_and128 (a : Nat) (h1 : a < 256) : bits BinOp.and IntKind.u8 (a : Int) 128 = ((if 128 ≤ a then 128 else 0 : Nat) : Int) := by
  rw [show (128 : Int) = ((128 : Nat) : Int) from rfl, u8_and_nat _ _ h1 (by omega), and128 _ h1]
theorem byte_xor27 (a : Nat) : bits BinOp.xor IntKind.u8 ((a : Int) * 2 % 256) 27 = (((a * 2 % 256) ^^^ 27 : Nat) : Int) := by
  rw [show (27 : Int) = ((27 : Nat) : Int) from rfl, show ((a : Int) * 2 % 256) = ((a * 2 % 256 : Nat) : Int) by omega, u8_xor_nat _ _ (by omega) (by omega)]

set_option maxHeartbeats 400000 in
theorem times_any (a b : Nat) (ha : a < 256) (hb : b < 256) (w : World) :
    Calls Tryz.prog 85 #[.int .u8 a, .int .u8 b] w fun e w' => e = .returned (.int .u8 (tm a b)) ∧ w = w' := by
  unfold tm
  go_enter Tryz.func85, Tryz.ntmps85
  go_wp2
  go_loop [0, 1, 5] (fun x y p => ∃ (f a' b' p' : Nat), a' < 256 ∧ p' < 256 ∧ b' < 2 ^ f ∧ f ≤ 8 ∧ x = .int .u8 a' ∧ y = .int .u8 b' ∧ p = .int .u8 p' ∧ tmF f p' a' b' = tmF 8 0 a b) (fun _ y _ => (intOf y).toNat)
  case atStart => exact ⟨8, a, b, 0, by omega, by omega, by omega, by omega, rfl, rfl, rfl, rfl⟩
  case round =>
    obtain ⟨f, a', b', p', h1, h2, h3, h4, rfl, rfl, rfl, h5⟩ := hrel
    have H5 := Lib.hid h5
    clear h5
    have hb256 : b' < 256 := Nat.lt_of_lt_of_le h3 (Nat.pow_le_pow_right (by omega) h4)
    have k1 := byte_and1 b' hb256
    have k2 := byte_and128 a' h1
    have k3 : bits BinOp.xor IntKind.u8 (p' : Int) (a' : Int) = ((p' ^^^ a' : Nat) : Int) := u8_xor_nat _ _ h2 h1
    have k4 := byte_xor27 a'
    have q1 : p' ^^^ a' < 256 := xor_lt8 h2 h1
    have q2 : (a' * 2 % 256) ^^^ 27 < 256 := xor_lt8 (by omega) (by omega)
    by_cases e0 : b' = 0
    · subst e0
      go_wp2
      go_ret
      exact ⟨by rw [← H5.out, tmF_zero]; rfl, rfl⟩
    · obtain ⟨f, rfl⟩ : ∃ g, f = g + 1 := ⟨f - 1, by cases f with | zero => simp at h3; omega | succ f => rfl⟩
      have hb1 : 0 < b' := by omega
      clear e0
      have H3 : b' / 2 < 2 ^ f := by rw [Nat.pow_succ] at h3; omega
      have H5' := H5.out
      rw [tmF_succ] at H5'
      rcases Nat.mod_two_eq_zero_or_one b' with c1 | c1 <;> by_cases c2 : 128 ≤ a'
      all_goals
        have H6 := Lib.hid H5'
        clear H5'
        have C1 := Lib.hid c1
        simp only [c1, c2, if_true, if_false] at k1 k2
        clear c1
        go_wp2
        go_round
        case rel =>
          refine ⟨f, xt a', b' / 2, p' ^^^ (a' * (b' % 2)), xt_lt h1, ?_, H3, by omega, ?_, by go_num, ?_, H6.out⟩
          · rcases Nat.mod_two_eq_zero_or_one b' with h | h <;> rw [h] <;> simp [h2, q1]
          · first | (rw [xt_hi h1 c2]) | (rw [xt_lo c2]; go_num)
          · rw [C1.out]; simp
        case measure => simp [intOf]; omega

/-! ### The reference's product -/
theorem ofInt_i64' (a : Nat) (ha : a < 9223372036854775808) : (BitVec.ofInt 64 (a : Int)).toNat = a := by
  rw [BitVec.ofInt_natCast, BitVec.toNat_ofNat]; exact Nat.mod_eq_of_lt (by omega)
theorem i64_and1 (x : Nat) (hx : x < 9223372036854775808) : bits BinOp.and IntKind.i64 (x : Int) 1 = ((x % 2 : Nat) : Int) := by
  rw [show (1 : Int) = ((1 : Nat) : Int) from rfl]
  show IntKind.i64.wrap ((BitVec.ofInt 64 (x : Int) &&& BitVec.ofInt 64 ((1 : Nat) : Int)).toNat : Int) = _
  rw [BitVec.toNat_and, ofInt_i64' x hx, ofInt_i64' 1 (by omega), IntKind.wrap_i64, nat_mask1]
  omega
theorem i64_xor_nat (a b : Nat) (ha : a < 9223372036854775808) (hb : b < 9223372036854775808) : bits .xor .i64 (a : Int) (b : Int) = ((a ^^^ b : Nat) : Int) := by
  have hx : a ^^^ b < 2 ^ 63 := Nat.xor_lt_two_pow (by omega) (by omega)
  show IntKind.i64.wrap ((BitVec.ofInt 64 (a : Int) ^^^ BitVec.ofInt 64 (b : Int)).toNat : Int) = _
  rw [BitVec.toNat_xor, ofInt_i64' a ha, ofInt_i64' b hb, IntKind.wrap_i64]
  omega

/-! ### bits.RotateLeft8, the inverse, Sub, Back -/
theorem shr_lt8 {x : Nat} (k : Nat) (hx : x < 256) : x / 2 ^ k < 256 := Nat.lt_of_le_of_lt (Nat.div_le_self _ _) hx
set_option maxHeartbeats 400000 in
theorem rot8_any (x k : Nat) (hx : x < 256) (hk : k ≤ 7) (w : World) :
    Calls Tryz.prog 97 #[.int .u8 x, .int .i64 k] w fun e w' => e = .returned (.int .u8 (rot8 x k)) ∧ w = w' := by
  have k1 : bits BinOp.and IntKind.u64 (k : Int) 7 = (k : Int) := by
    rw [show (7 : Int) = ((7 : Nat) : Int) from rfl, u64_and_nat _ _ (by omega) (by omega), nat_mask3, Nat.mod_eq_of_lt (by omega)]
  have k2 : bits BinOp.or IntKind.u8 ((x : Int) * 2 ^ k % 256) ((x : Int) / 2 ^ (8 - k)) = ((rot8 x k : Nat) : Int) := by
    have := u8_or_nat (x * 2 ^ k % 256) (x / 2 ^ (8 - k)) (by omega) (shr_lt8 _ hx)
    unfold rot8
    simpa using this
  go_enter Tryz.func97, Tryz.ntmps97
  go_wp2
  go_ret
  exact ⟨rfl, rfl⟩

end Go.Proofs.YtlhbijpmhokmnaaGreat
