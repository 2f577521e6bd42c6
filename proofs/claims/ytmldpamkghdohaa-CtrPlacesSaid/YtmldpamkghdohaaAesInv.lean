/-
  DECRYPT UNDOES ENCRYPT, AND ENCRYPT UNDOES DECRYPT, as functions on bytes. Conditions: bytes; no program in sight but for the names.
-/
import Derived.Test.YtmldpamkghdohaaAesW6
namespace Go.Proofs.Ytmldpamkghdohaa
set_option linter.unusedSimpArgs false
set_option linter.unusedVariables false

theorem pe_pd : ∀ i, i < 16 → pe (pd i) = i := by decide
theorem pd_pe : ∀ i, i < 16 → pd (pe i) = i := by decide

def coefB (p q r s e f g h : Nat) (v : Nat → Nat → Bool) : Bool :=
  allB (fun x => v x (tm (tm x p) e ^^^ tm (tm x q) f ^^^ tm (tm x r) g ^^^ tm (tm x s) h)) 256
theorem coef_at {p q r s e f g h : Nat} {v : Nat → Nat → Bool} (hc : coefB p q r s e f g h v = true) {x : Nat} (hx : x < 256) : v x (tm (tm x p) e ^^^ tm (tm x q) f ^^^ tm (tm x r) g ^^^ tm (tm x s) h) = true :=
  allB_at hc x hx
theorem co0 : coefB 2 1 1 3 14 11 13 9 (fun x y => Nat.beq y x) = true := by decide +kernel
theorem co1 : coefB 3 2 1 1 14 11 13 9 (fun _ y => Nat.beq y 0) = true := by decide +kernel
theorem co2 : coefB 1 3 2 1 14 11 13 9 (fun _ y => Nat.beq y 0) = true := by decide +kernel
theorem co3 : coefB 1 1 3 2 14 11 13 9 (fun _ y => Nat.beq y 0) = true := by decide +kernel
theorem ce0 : coefB 14 9 13 11 2 3 1 1 (fun x y => Nat.beq y x) = true := by decide +kernel
theorem ce1 : coefB 11 14 9 13 2 3 1 1 (fun _ y => Nat.beq y 0) = true := by decide +kernel
theorem ce2 : coefB 13 11 14 9 2 3 1 1 (fun _ y => Nat.beq y 0) = true := by decide +kernel
theorem ce3 : coefB 9 13 11 14 2 3 1 1 (fun _ y => Nat.beq y 0) = true := by decide +kernel
/-- Four terms, four times: by rows or by columns. -/
theorem xor16 (a0 a1 a2 a3 b0 b1 b2 b3 c0 c1 c2 c3 d0 d1 d2 d3 : Nat) :
    (a0 ^^^ a1 ^^^ a2 ^^^ a3) ^^^ (b0 ^^^ b1 ^^^ b2 ^^^ b3) ^^^ (c0 ^^^ c1 ^^^ c2 ^^^ c3) ^^^ (d0 ^^^ d1 ^^^ d2 ^^^ d3) =
    (a0 ^^^ b0 ^^^ c0 ^^^ d0) ^^^ (a1 ^^^ b1 ^^^ c1 ^^^ d1) ^^^ (a2 ^^^ b2 ^^^ c2 ^^^ d2) ^^^ (a3 ^^^ b3 ^^^ c3 ^^^ d3) := by
  ac_rfl
theorem tm_lin4 {a b c d : Nat} (e : Nat) (ha : a < 256) (hb : b < 256) (hc : c < 256) (hd : d < 256) : tm (a ^^^ b ^^^ c ^^^ d) e = tm a e ^^^ tm b e ^^^ tm c e ^^^ tm d e := by
  rw [tm_linl _ (xor_lt8 (xor_lt8 ha hb) hc) hd, tm_linl _ (xor_lt8 ha hb) hc, tm_linl _ ha hb]
/-- One column, forth and back. -/
theorem col_back {x0 x1 x2 x3 : Nat} (h0 : x0 < 256) (h1 : x1 < 256) (h2 : x2 < 256) (h3 : x3 < 256) :
    tm (tm x0 2 ^^^ tm x1 3 ^^^ tm x2 1 ^^^ tm x3 1) 14 ^^^ tm (tm x1 2 ^^^ tm x2 3 ^^^ tm x3 1 ^^^ tm x0 1) 11 ^^^ tm (tm x2 2 ^^^ tm x3 3 ^^^ tm x0 1 ^^^ tm x1 1) 13 ^^^ tm (tm x3 2 ^^^ tm x0 3 ^^^ tm x1 1 ^^^ tm x2 1) 9 = x0 := by
  have e0 := Nat.eq_of_beq_eq_true (coef_at co0 h0)
  have e1 := Nat.eq_of_beq_eq_true (coef_at co1 h1)
  have e2 := Nat.eq_of_beq_eq_true (coef_at co2 h2)
  have e3 := Nat.eq_of_beq_eq_true (coef_at co3 h3)
  rw [tm_lin4 _ (tm_lt _ _ h0) (tm_lt _ _ h1) (tm_lt _ _ h2) (tm_lt _ _ h3), tm_lin4 _ (tm_lt _ _ h1) (tm_lt _ _ h2) (tm_lt _ _ h3) (tm_lt _ _ h0),
    tm_lin4 _ (tm_lt _ _ h2) (tm_lt _ _ h3) (tm_lt _ _ h0) (tm_lt _ _ h1), tm_lin4 _ (tm_lt _ _ h3) (tm_lt _ _ h0) (tm_lt _ _ h1) (tm_lt _ _ h2)]
  have hs : ∀ a0 a1 a2 a3 b0 b1 b2 b3 c0 c1 c2 c3 d0 d1 d2 d3 : Nat, (a0 ^^^ a1 ^^^ a2 ^^^ a3) ^^^ (b1 ^^^ b2 ^^^ b3 ^^^ b0) ^^^ (c2 ^^^ c3 ^^^ c0 ^^^ c1) ^^^ (d3 ^^^ d0 ^^^ d1 ^^^ d2) =
      (a0 ^^^ b0 ^^^ c0 ^^^ d0) ^^^ (a1 ^^^ b1 ^^^ c1 ^^^ d1) ^^^ (a2 ^^^ b2 ^^^ c2 ^^^ d2) ^^^ (a3 ^^^ b3 ^^^ c3 ^^^ d3) := by intros; ac_rfl
  rw [hs, e0, e1, e2, e3]
  simp
theorem col_forth {x0 x1 x2 x3 : Nat} (h0 : x0 < 256) (h1 : x1 < 256) (h2 : x2 < 256) (h3 : x3 < 256) :
    tm (tm x0 14 ^^^ tm x1 11 ^^^ tm x2 13 ^^^ tm x3 9) 2 ^^^ tm (tm x1 14 ^^^ tm x2 11 ^^^ tm x3 13 ^^^ tm x0 9) 3 ^^^ tm (tm x2 14 ^^^ tm x3 11 ^^^ tm x0 13 ^^^ tm x1 9) 1 ^^^ tm (tm x3 14 ^^^ tm x0 11 ^^^ tm x1 13 ^^^ tm x2 9) 1 = x0 := by
  have e0 := Nat.eq_of_beq_eq_true (coef_at ce0 h0)
  have e1 := Nat.eq_of_beq_eq_true (coef_at ce1 h1)
  have e2 := Nat.eq_of_beq_eq_true (coef_at ce2 h2)
  have e3 := Nat.eq_of_beq_eq_true (coef_at ce3 h3)
  rw [tm_lin4 _ (tm_lt _ _ h0) (tm_lt _ _ h1) (tm_lt _ _ h2) (tm_lt _ _ h3), tm_lin4 _ (tm_lt _ _ h1) (tm_lt _ _ h2) (tm_lt _ _ h3) (tm_lt _ _ h0),
    tm_lin4 _ (tm_lt _ _ h2) (tm_lt _ _ h3) (tm_lt _ _ h0) (tm_lt _ _ h1), tm_lin4 _ (tm_lt _ _ h3) (tm_lt _ _ h0) (tm_lt _ _ h1) (tm_lt _ _ h2)]
  have hs : ∀ a0 a1 a2 a3 b0 b1 b2 b3 c0 c1 c2 c3 d0 d1 d2 d3 : Nat, (a0 ^^^ a1 ^^^ a2 ^^^ a3) ^^^ (b1 ^^^ b2 ^^^ b3 ^^^ b0) ^^^ (c2 ^^^ c3 ^^^ c0 ^^^ c1) ^^^ (d3 ^^^ d0 ^^^ d1 ^^^ d2) =
      (a0 ^^^ b0 ^^^ c0 ^^^ d0) ^^^ (a1 ^^^ b1 ^^^ c1 ^^^ d1) ^^^ (a2 ^^^ b2 ^^^ c2 ^^^ d2) ^^^ (a3 ^^^ b3 ^^^ c3 ^^^ d3) := by intros; ac_rfl
  rw [hs, e0, e1, e2, e3]
  simp
/-- Where a place of a column leads. -/
theorem mix_col (s : Nat → Nat) (a b c d i m : Nat) (hi : i < 16) (hm : m < 4) :
    mixF s a b c d (i / 4 * 4 + (i + m) % 4) = tm (s (i / 4 * 4 + (i + m) % 4)) a ^^^ tm (s (i / 4 * 4 + (i + (m + 1)) % 4)) b ^^^ tm (s (i / 4 * 4 + (i + (m + 2)) % 4)) c ^^^ tm (s (i / 4 * 4 + (i + (m + 3)) % 4)) d := by
  unfold mixF
  rw [show (i / 4 * 4 + (i + m) % 4) / 4 * 4 + (i / 4 * 4 + (i + m) % 4) % 4 = i / 4 * 4 + (i + m) % 4 by omega,
    show (i / 4 * 4 + (i + m) % 4) / 4 * 4 + (i / 4 * 4 + (i + m) % 4 + 1) % 4 = i / 4 * 4 + (i + (m + 1)) % 4 by omega,
    show (i / 4 * 4 + (i + m) % 4) / 4 * 4 + (i / 4 * 4 + (i + m) % 4 + 2) % 4 = i / 4 * 4 + (i + (m + 2)) % 4 by omega,
    show (i / 4 * 4 + (i + m) % 4) / 4 * 4 + (i / 4 * 4 + (i + m) % 4 + 3) % 4 = i / 4 * 4 + (i + (m + 3)) % 4 by omega]
theorem mix_back {s : Nat → Nat} (hs : ∀ i, i < 16 → s i < 256) {i : Nat} (hi : i < 16) : mixF (mixF s 2 3 1 1) 14 11 13 9 i = s i := by
  have m0 := mix_col s 2 3 1 1 i 0 hi (by omega)
  have m1 := mix_col s 2 3 1 1 i 1 hi (by omega)
  have m2 := mix_col s 2 3 1 1 i 2 hi (by omega)
  have m3 := mix_col s 2 3 1 1 i 3 hi (by omega)
  have q0 : (i + (1 + 3)) % 4 = i % 4 := by omega
  have q1 : (i + (2 + 2)) % 4 = i % 4 := by omega
  have q2 : (i + (2 + 3)) % 4 = (i + 1) % 4 := by omega
  have q3 : (i + (3 + 1)) % 4 = i % 4 := by omega
  have q4 : (i + (3 + 2)) % 4 = (i + 1) % 4 := by omega
  have q5 : (i + (3 + 3)) % 4 = (i + 2) % 4 := by omega
  rw [q0] at m1
  rw [q1, q2] at m2
  rw [q3, q4, q5] at m3
  simp only [Nat.add_zero, Nat.zero_add, Nat.reduceAdd] at m0 m1 m2 m3
  rw [mixF, m0, m1, m2, m3, col_back (hs _ (by omega)) (hs _ (by omega)) (hs _ (by omega)) (hs _ (by omega))]
  rw [show i / 4 * 4 + i % 4 = i by omega]
theorem mix_forth {s : Nat → Nat} (hs : ∀ i, i < 16 → s i < 256) {i : Nat} (hi : i < 16) : mixF (mixF s 14 11 13 9) 2 3 1 1 i = s i := by
  have m0 := mix_col s 14 11 13 9 i 0 hi (by omega)
  have m1 := mix_col s 14 11 13 9 i 1 hi (by omega)
  have m2 := mix_col s 14 11 13 9 i 2 hi (by omega)
  have m3 := mix_col s 14 11 13 9 i 3 hi (by omega)
  have q0 : (i + (1 + 3)) % 4 = i % 4 := by omega
  have q1 : (i + (2 + 2)) % 4 = i % 4 := by omega
  have q2 : (i + (2 + 3)) % 4 = (i + 1) % 4 := by omega
  have q3 : (i + (3 + 1)) % 4 = i % 4 := by omega
  have q4 : (i + (3 + 2)) % 4 = (i + 1) % 4 := by omega
  have q5 : (i + (3 + 3)) % 4 = (i + 2) % 4 := by omega
  rw [q0] at m1
  rw [q1, q2] at m2
  rw [q3, q4, q5] at m3
  simp only [Nat.add_zero, Nat.zero_add, Nat.reduceAdd] at m0 m1 m2 m3
  rw [mixF, m0, m1, m2, m3, col_forth (hs _ (by omega)) (hs _ (by omega)) (hs _ (by omega)) (hs _ (by omega))]
  rw [show i / 4 * 4 + i % 4 = i by omega]
theorem xor_twice (a b : Nat) : a ^^^ b ^^^ b = a := by rw [Nat.xor_assoc, Nat.xor_self, Nat.xor_zero]
theorem mixF_congr' {s t : Nat → Nat} (h : ∀ i, i < 16 → s i = t i) (a b c d : Nat) {i : Nat} (hi : i < 16) : mixF s a b c d i = mixF t a b c d i := by
  unfold mixF
  rw [h _ (by omega), h _ (mix_ix hi), h _ (mix_ix hi), h _ (mix_ix hi)]
/-- One round, forth and back. -/
theorem dec_enc {kb s t : Nat → Nat} (r : Nat) (hs : ∀ i, i < 16 → s i < 256) (ht : ∀ i, i < 16 → t i = encS kb r s i) : ∀ i, i < 16 → decS kb r t i = s i := by
  have hx : ∀ i, i < 16 → decX kb r t i = if r < 14 then mixF (encT s) 2 3 1 1 i else encT s i := by
    intro i hi
    unfold decX
    rw [ht i hi, encS, xor_twice]
  have hm : ∀ i, i < 16 → decM kb r t i = encT s i := by
    intro i hi
    unfold decM
    by_cases e : r < 14
    · rw [if_pos e, mixF_congr' (t := mixF (encT s) 2 3 1 1) (fun j hj => by rw [hx j hj, if_pos e]) _ _ _ _ hi]
      exact mix_back (fun j hj => encT_lt hs hj) hi
    · rw [if_neg e, hx i hi, if_neg e]
  intro i hi
  unfold decS
  rw [hm _ (pd_lt i), encT, pe_pd i hi, bk_sb (hs i hi)]
theorem enc_dec {kb s t : Nat → Nat} (r : Nat) (hk : ∀ i, i < 240 → kb i < 256) (hr : r ≤ 14) (hs : ∀ i, i < 16 → s i < 256) (ht : ∀ i, i < 16 → t i = decS kb r s i) : ∀ i, i < 16 → encS kb r t i = s i := by
  have hx : ∀ i, i < 16 → encT t i = decM kb r s i := by
    intro i hi
    unfold encT
    rw [ht _ (pe_lt i), decS, pd_pe i hi, sb_bk (decM_lt hk hs hr hi)]
  intro i hi
  unfold encS
  by_cases e : r < 14
  · rw [if_pos e, mixF_congr' (t := mixF (decX kb r s) 14 11 13 9) (fun j hj => by rw [hx j hj, decM, if_pos e]) _ _ _ _ hi]
    rw [mix_forth (fun j hj => decX_lt hk hs hr hj) hi, decX, xor_twice]
  · rw [if_neg e, hx i hi, decM, if_neg e, decX, xor_twice]
theorem back_enc {kb s t : Nat → Nat} (hk : ∀ i, i < 240 → kb i < 256) (hs : ∀ i, i < 16 → s i < 256) (ht : ∀ i, i < 16 → t i = encN kb s 14 i) : ∀ n, n ≤ 14 → ∀ i, i < 16 → decN kb t n i = encN kb s (14 - n) i := by
  intro n
  induction n with
  | zero => intro _ i hi; exact ht i hi
  | succ n ih =>
    intro hn i hi
    have h1 := ih (by omega)
    rw [show 14 - n = 14 - (n + 1) + 1 by omega] at h1
    have h2 := dec_enc (kb := kb) (s := encN kb s (14 - (n + 1))) (t := decN kb t n) (14 - (n + 1) + 1) (encN_lt hk hs _ (by omega)) h1 i hi
    rw [show 14 - (n + 1) + 1 = 14 - n by omega] at h2
    exact h2
theorem decrypt_encrypt {kb s t : Nat → Nat} (hk : ∀ i, i < 240 → kb i < 256) (hs : ∀ i, i < 16 → s i < 256) (ht : ∀ i, i < 16 → t i = encN kb s 14 i) {i : Nat} (hi : i < 16) : decN kb t 14 i ^^^ kb i = s i := by
  rw [back_enc hk hs ht 14 (by omega) i hi]
  show s i ^^^ kb i ^^^ kb i = s i
  exact xor_twice _ _
theorem forth_dec {kb s t : Nat → Nat} (hk : ∀ i, i < 240 → kb i < 256) (hs : ∀ i, i < 16 → s i < 256) (ht : ∀ i, i < 16 → t i = decN kb s 14 i ^^^ kb i) : ∀ n, n ≤ 14 → ∀ i, i < 16 → encN kb t n i = decN kb s (14 - n) i := by
  intro n
  induction n with
  | zero =>
    intro _ i hi
    show t i ^^^ kb i = _
    rw [ht i hi, xor_twice]
  | succ n ih =>
    intro hn i hi
    have h1 := ih (by omega)
    rw [show 14 - n = 14 - (n + 1) + 1 by omega] at h1
    have h0 : ∀ i, i < 16 → encN kb t n i = decS kb (n + 1) (decN kb s (14 - (n + 1))) i := by
      intro j hj
      rw [h1 j hj]
      show decS kb (14 - (14 - (n + 1))) _ j = _
      rw [show 14 - (14 - (n + 1)) = n + 1 by omega]
    exact enc_dec (n + 1) hk (by omega) (decN_lt hk hs _ (by omega)) h0 i hi
theorem encrypt_decrypt {kb s t : Nat → Nat} (hk : ∀ i, i < 240 → kb i < 256) (hs : ∀ i, i < 16 → s i < 256) (ht : ∀ i, i < 16 → t i = decN kb s 14 i ^^^ kb i) {i : Nat} (hi : i < 16) : encN kb t 14 i = s i :=
  forth_dec hk hs ht 14 (by omega) i hi
end Go.Proofs.Ytmldpamkghdohaa
