/-
  PLAIN MATHEMATICS FOR THE AES CHAPTER, the second part: the reference's product, the inverse, Sub and Back. Conditions: none.
-/
import Derived.Test.YtmldpamkghdohaaAesSpec
namespace Go.Proofs.Ytmldpamkghdohaa

/-! ### The reference's product -/
def polF : Nat → Nat → Nat → Nat → Nat → Nat
  | 0, _, _, _, p => p
  | f + 1, i, a, b, p => force (p ^^^ (a * 2 ^ i * (b / 2 ^ i % 2))) fun p' => polF f (i + 1) a b p'
def redF : Nat → Nat → Nat
  | 0, p => p
  | f + 1, p => force (p ^^^ (283 * 2 ^ f * (p / 2 ^ (f + 8) % 2))) fun p' => redF f p'
def rtm (a b : Nat) : Nat := redF 7 (polF 8 0 a b 0) % 256
theorem polF_succ (f i a b p : Nat) : polF (f + 1) i a b p = polF f (i + 1) a b (p ^^^ (a * 2 ^ i * (b / 2 ^ i % 2))) := by rw [polF]; simp only [force_eq]
theorem redF_succ (f p : Nat) : redF (f + 1) p = redF f (p ^^^ (283 * 2 ^ f * (p / 2 ^ (f + 8) % 2))) := by rw [redF]; simp only [force_eq]
theorem xor_divp (a b i : Nat) : (a ^^^ b) / 2 ^ i = a / 2 ^ i ^^^ b / 2 ^ i := by
  simpa [Nat.shiftRight_eq_div_pow] using Nat.shiftRight_xor_distrib (a := a) (b := b) (i := i)
theorem xor_mulp (a b i : Nat) : (a ^^^ b) * 2 ^ i = a * 2 ^ i ^^^ b * 2 ^ i := by
  simpa [Nat.shiftLeft_eq] using Nat.shiftLeft_xor_distrib (a := a) (b := b) (i := i)
theorem polF_linr (f : Nat) : ∀ i a b c p q, polF f i a (b ^^^ c) (p ^^^ q) = polF f i a b p ^^^ polF f i a c q := by
  induction f with
  | zero => intros; rfl
  | succ f ih =>
    intro i a b c p q
    rw [polF_succ, polF_succ, polF_succ, xor_divp, xor_mod2, mul_bit, xor4, ih]
theorem polF_linl (f : Nat) : ∀ i a d b p q, polF f i (a ^^^ d) b (p ^^^ q) = polF f i a b p ^^^ polF f i d b q := by
  induction f with
  | zero => intros; rfl
  | succ f ih =>
    intro i a d b p q
    rw [polF_succ, polF_succ, polF_succ, xor_mulp, mul_bitl, xor4, ih]
theorem redF_lin (f : Nat) : ∀ p q, redF f (p ^^^ q) = redF f p ^^^ redF f q := by
  induction f with
  | zero => intros; rfl
  | succ f ih =>
    intro p q
    rw [redF_succ, redF_succ, redF_succ, xor_divp, xor_mod2, mul_bit, xor4, ih]
theorem rtm_linr (a b c : Nat) : rtm a (b ^^^ c) = rtm a b ^^^ rtm a c := by
  unfold rtm
  rw [← xor_mod256, ← redF_lin, ← polF_linr]
  rfl
theorem rtm_linl (a d b : Nat) : rtm (a ^^^ d) b = rtm a b ^^^ rtm d b := by
  unfold rtm
  rw [← xor_mod256, ← redF_lin, ← polF_linl]
  rfl
theorem rtm_basis : allB (fun i => allB (fun j => Nat.beq (rtm (2 ^ i) (2 ^ j)) (tm (2 ^ i) (2 ^ j))) 8) 8 = true := by decide +kernel
theorem rtm_eq {a b : Nat} (ha : a < 256) (hb : b < 256) : rtm a b = tm a b := by
  refine lin_ext (f := fun b => rtm a b) (g := fun b => tm a b) (fun x y _ _ => rtm_linr a x y) (fun x y _ _ => tm_linr a x y) (fun i hi => ?_) b hb
  refine lin_ext (f := fun a => rtm a (2 ^ i)) (g := fun a => tm a (2 ^ i)) (fun x y _ _ => rtm_linl x y _) (fun x y hx hy => tm_linl _ hx hy) (fun j hj => ?_) a ha
  exact Nat.eq_of_beq_eq_true (allB_at (allB_at rtm_basis j hj) i hi)
theorem polF_lt (f : Nat) : ∀ i a b p, a < 256 → p < 2 ^ 16 → i + f ≤ 8 → polF f i a b p < 2 ^ 16 := by
  induction f with
  | zero => intro i a b p _ hp _; exact hp
  | succ f ih =>
    intro i a b p ha hp hi
    rw [polF_succ]
    refine ih _ _ _ _ ha (Nat.xor_lt_two_pow hp ?_) (by omega)
    have h1 : 2 ^ i ≤ 2 ^ 7 := Nat.pow_le_pow_right (by omega) (by omega)
    have h2 : a * 2 ^ i ≤ 255 * 2 ^ 7 := Nat.mul_le_mul (by omega) h1
    rcases Nat.mod_two_eq_zero_or_one (b / 2 ^ i) with h | h <;> rw [h] <;> omega

/-! ### The inverse: the power 254 -/
def invF : Nat → Nat → Nat → Nat → Nat
  | 0, p, _, _ => p
  | f + 1, p, b, e => force (if Nat.beq (e % 2) 1 then tm p b else p) fun p' => force (tm b b) fun b' => invF f p' b' (e / 2)
def inv (b : Nat) : Nat := invF 8 1 b 254
theorem invF_succ (f p b e : Nat) : invF (f + 1) p b e = invF f (if e % 2 = 1 then tm p b else p) (tm b b) (e / 2) := by
  rw [invF]
  simp only [force_eq, Nat.beq_eq]
theorem invF_lt (f : Nat) : ∀ p b e, p < 256 → b < 256 → invF f p b e < 256 := by
  induction f with
  | zero => intro p b e hp _; exact hp
  | succ f ih =>
    intro p b e hp hb
    rw [invF_succ]
    refine ih _ _ _ ?_ (tm_lt _ _ hb)
    split
    · exact tm_lt _ _ hp
    · exact hp
theorem inv_lt {b : Nat} (hb : b < 256) : inv b < 256 := invF_lt 8 1 b 254 (by omega) hb
theorem invF_zero (f p b : Nat) : invF f p b 0 = p := by
  induction f generalizing p b with
  | zero => rfl
  | succ f ih => simp [invF_succ, ih]
theorem inv_all : allB (fun b => if Nat.beq b 0 then Nat.beq (inv b) 0 else Nat.beq (tm (inv b) b) 1) 256 = true := by decide +kernel
theorem inv_zero : inv 0 = 0 := by
  have := allB_at inv_all 0 (by omega)
  simpa [Nat.beq_eq] using this
theorem inv_mul {b : Nat} (hb : b < 256) (h : b ≠ 0) : tm (inv b) b = 1 := by
  have := allB_at inv_all b hb
  simpa [Nat.beq_eq, h] using this
theorem inv_only {x b : Nat} (hx : x < 256) (hb : b < 256) (h : tm x b = 1) : x = inv b := by
  have h0 : b ≠ 0 := by
    rintro rfl
    rw [tm_zero] at h
    cases h
  have h1 : tm (tm x b) (inv b) = tm x (tm b (inv b)) := (tm_assoc hx hb (inv_lt hb)).symm
  rw [h, tm_comm hb (inv_lt hb), inv_mul hb h0, tm_one hx, tm_comm (by omega) (inv_lt hb), tm_one (inv_lt hb)] at h1
  exact h1.symm

/-! ### Sub and Back -/
def rot8 (x k : Nat) : Nat := (x * 2 ^ k % 256) ||| (x / 2 ^ (8 - k))
theorem rot8_lt {x : Nat} (k : Nat) (hx : x < 256) : rot8 x k < 256 :=
  or_lt8 (Nat.mod_lt _ (by omega)) (Nat.lt_of_le_of_lt (Nat.div_le_self _ _) hx)
def sbF : Nat → Nat → Nat → Nat → Nat
  | 0, _, _, s => s
  | f + 1, i, c, s => force (s ^^^ rot8 c i) fun s' => sbF f (i + 1) c s'
theorem sbF_succ (f i c s : Nat) : sbF (f + 1) i c s = sbF f (i + 1) c (s ^^^ rot8 c i) := by rw [sbF]; simp only [force_eq]
def sb (b : Nat) : Nat := force (inv b) fun c => sbF 5 0 c 99
theorem sb_def (b : Nat) : sb b = sbF 5 0 (inv b) 99 := by rw [sb, force_eq]
def bk (b : Nat) : Nat := inv (rot8 b 1 ^^^ rot8 b 3 ^^^ rot8 b 6 ^^^ 5)
theorem sbF_lt (f : Nat) : ∀ i c s, c < 256 → s < 256 → sbF f i c s < 256 := by
  induction f with
  | zero => intro i c s _ hs; exact hs
  | succ f ih => intro i c s hc hs; rw [sbF_succ]; exact ih _ c _ hc (xor_lt8 hs (rot8_lt _ hc))
theorem sb_lt {b : Nat} (hb : b < 256) : sb b < 256 := by rw [sb_def]; exact sbF_lt 5 0 _ _ (inv_lt hb) (by omega)
theorem bk_lt {b : Nat} (hb : b < 256) : bk b < 256 := inv_lt (xor_lt8 (xor_lt8 (xor_lt8 (rot8_lt _ hb) (rot8_lt _ hb)) (rot8_lt _ hb)) (by omega))
theorem bk_sb_all : allB (fun b => Nat.beq (bk (sb b)) b) 256 = true := by decide +kernel
theorem sb_bk_all : allB (fun b => Nat.beq (sb (bk b)) b) 256 = true := by decide +kernel
theorem bk_sb {b : Nat} (hb : b < 256) : bk (sb b) = b := Nat.eq_of_beq_eq_true (allB_at bk_sb_all b hb)
theorem sb_bk {b : Nat} (hb : b < 256) : sb (bk b) = b := Nat.eq_of_beq_eq_true (allB_at sb_bk_all b hb)

/-- The reference's table: the inverse by search, the bits one by one. -/
def rbitF (c i : Nat) : Nat → Nat → Nat → Nat
  | 0, _, bit => bit
  | f + 1, k, bit => force (bit ^^^ (c / 2 ^ ((if Nat.beq k 0 then i else i + 3 + k) % 8) % 2)) fun b' => rbitF c i f (k + 1) b'
theorem rbitF_succ (c i f k bit : Nat) : rbitF c i (f + 1) k bit = rbitF c i f (k + 1) (bit ^^^ (c / 2 ^ ((if k = 0 then i else i + 3 + k) % 8) % 2)) := by
  rw [rbitF]; simp only [force_eq, Nat.beq_eq]
def rsubF (c : Nat) : Nat → Nat → Nat → Nat
  | 0, _, s => s
  | f + 1, i, s => force (s + rbitF c i 5 0 (99 / 2 ^ i % 2) * 2 ^ i) fun s' => rsubF c f (i + 1) s'
theorem rsubF_succ (c f i s : Nat) : rsubF c (f + 1) i s = rsubF c f (i + 1) (s + rbitF c i 5 0 (99 / 2 ^ i % 2) * 2 ^ i) := by rw [rsubF]; simp only [force_eq]
theorem rsub_all : allB (fun b => Nat.beq (rsubF (inv b) 8 0 0) (sb b)) 256 = true := by decide +kernel
theorem rsub_eq {b : Nat} (hb : b < 256) : rsubF (inv b) 8 0 0 = sb b := Nat.eq_of_beq_eq_true (allB_at rsub_all b hb)
theorem rbitF_lt (c i : Nat) (f : Nat) : ∀ k bit, bit < 2 → rbitF c i f k bit < 2 := by
  induction f with
  | zero => intro k bit h; exact h
  | succ f ih =>
    intro k bit h
    rw [rbitF_succ]
    exact ih _ _ (Nat.xor_lt_two_pow (n := 1) h (by omega))
end Go.Proofs.Ytmldpamkghdohaa
