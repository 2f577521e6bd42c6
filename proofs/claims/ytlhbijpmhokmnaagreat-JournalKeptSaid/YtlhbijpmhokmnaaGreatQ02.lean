/-
  SHA-256 IN PLAIN MATHEMATICS. Conditions: none.
  SHA-256 RECKONED BY THE KERNEL: a form that does each step once; the fixed examples. Conditions: none.
-/
import Derived.Test.YtlhbijpmhokmnaaGreatQ01
namespace Go.Proofs.YtlhbijpmhokmnaaGreat
open Go.RowKit
set_option linter.unusedSimpArgs false
set_option linter.unusedVariables false

/-- Turned to the right. -/
def rr (x n : Nat) : Nat := x / 2 ^ n + x % 2 ^ n * 2 ^ (32 - n)
def sg0 (x : Nat) : Nat := rr x 7 ^^^ rr x 18 ^^^ x / 8
def sg1 (x : Nat) : Nat := rr x 17 ^^^ rr x 19 ^^^ x / 1024
def sS0 (x : Nat) : Nat := rr x 2 ^^^ rr x 13 ^^^ rr x 22
def sS1 (x : Nat) : Nat := rr x 6 ^^^ rr x 11 ^^^ rr x 25
def sCh (e f g : Nat) : Nat := (e &&& f) ^^^ ((4294967295 - e) &&& g)
def sMa (a b c : Nat) : Nat := (a &&& b) ^^^ (a &&& c) ^^^ (b &&& c)
def be4 (p : List Nat) (i : Nat) : Nat := nth p i * 16777216 + nth p (i + 1) * 65536 + nth p (i + 2) * 256 + nth p (i + 3)
/-- The words of a block. -/
def nextW (p w : List Nat) (t : Nat) : Nat := if t < 16 then be4 p (4 * t) else (sg1 (nth w (t - 2)) + nth w (t - 7) + sg0 (nth w (t - 15)) + nth w (t - 16)) % 4294967296
def sched (p : List Nat) : Nat → List Nat
  | 0 => []
  | t + 1 => sched p t ++ [nextW p (sched p t) t]
structure St where
  a : Nat
  b : Nat
  c : Nat
  d : Nat
  e : Nat
  f : Nat
  g : Nat
  h : Nat
structure St.Wf (s : St) : Prop where
  a : s.a < 4294967296
  b : s.b < 4294967296
  c : s.c < 4294967296
  d : s.d < 4294967296
  e : s.e < 4294967296
  f : s.f < 4294967296
  g : s.g < 4294967296
  h : s.h < 4294967296
def sOne (k w : Nat) (s : St) : Nat := (s.h + sS1 s.e + sCh s.e s.f s.g + k + w) % 4294967296
def sTwo (s : St) : Nat := (sS0 s.a + sMa s.a s.b s.c) % 4294967296
def rnd (k w : Nat) (s : St) : St := ⟨(sOne k w s + sTwo s) % 4294967296, s.a, s.b, s.c, (s.d + sOne k w s) % 4294967296, s.e, s.f, s.g⟩
/-- The rounds' numbers; the first state. -/
def kL : List Nat := [0x428a2f98, 0x71374491, 0xb5c0fbcf, 0xe9b5dba5, 0x3956c25b, 0x59f111f1, 0x923f82a4, 0xab1c5ed5, 0xd807aa98, 0x12835b01, 0x243185be, 0x550c7dc3, 0x72be5d74, 0x80deb1fe, 0x9bdc06a7, 0xc19bf174,
  0xe49b69c1, 0xefbe4786, 0x0fc19dc6, 0x240ca1cc, 0x2de92c6f, 0x4a7484aa, 0x5cb0a9dc, 0x76f988da, 0x983e5152, 0xa831c66d, 0xb00327c8, 0xbf597fc7, 0xc6e00bf3, 0xd5a79147, 0x06ca6351, 0x14292967,
  0x27b70a85, 0x2e1b2138, 0x4d2c6dfc, 0x53380d13, 0x650a7354, 0x766a0abb, 0x81c2c92e, 0x92722c85, 0xa2bfe8a1, 0xa81a664b, 0xc24b8b70, 0xc76c51a3, 0xd192e819, 0xd6990624, 0xf40e3585, 0x106aa070,
  0x19a4c116, 0x1e376c08, 0x2748774c, 0x34b0bcb5, 0x391c0cb3, 0x4ed8aa4a, 0x5b9cca4f, 0x682e6ff3, 0x748f82ee, 0x78a5636f, 0x84c87814, 0x8cc70208, 0x90befffa, 0xa4506ceb, 0xbef9a3f7, 0xc67178f2]
def h0 : St := ⟨0x6a09e667, 0xbb67ae85, 0x3c6ef372, 0xa54ff53a, 0x510e527f, 0x9b05688c, 0x1f83d9ab, 0x5be0cd19⟩
def rounds (w : List Nat) (s : St) : Nat → St
  | 0 => s
  | t + 1 => rnd (nth kL t) (nth w t) (rounds w s t)
def St.add (s t : St) : St := ⟨(s.a + t.a) % 4294967296, (s.b + t.b) % 4294967296, (s.c + t.c) % 4294967296, (s.d + t.d) % 4294967296, (s.e + t.e) % 4294967296, (s.f + t.f) % 4294967296, (s.g + t.g) % 4294967296, (s.h + t.h) % 4294967296⟩
def blk (s : St) (p : List Nat) : St := s.add (rounds (sched p 64) s 64)
/-- So many blocks of some bytes. -/
def chain (s : St) (p : List Nat) : Nat → St
  | 0 => s
  | n + 1 => blk (chain s p n) ((p.drop (64 * n)).take 64)
def be8 (n : Nat) : List Nat := (List.range 8).map fun i => n / 256 ^ (7 - i) % 256
/-- How many noughts. -/
def padZ (n : Nat) : Nat := (55 + 64 - n % 64) % 64
def padded (l : List Nat) : List Nat := l ++ [128] ++ List.replicate (padZ l.length) 0 ++ be8 (8 * l.length)
def St.word (s : St) : Nat → Nat
  | 0 => s.a
  | 1 => s.b
  | 2 => s.c
  | 3 => s.d
  | 4 => s.e
  | 5 => s.f
  | 6 => s.g
  | _ => s.h
def outB (s : St) (i : Nat) : Nat := s.word (i / 4) / 256 ^ (3 - i % 4) % 256
def sumOf (s : St) : List Nat := (List.range 32).map (outB s)
def shaSt (l : List Nat) : St := chain h0 (padded l) ((padded l).length / 64)
def sha (l : List Nat) : List Nat := sumOf (shaSt l)

/-! ### In range -/
theorem rr_lt {x n : Nat} (hx : x < 4294967296) (hn : n < 32) : rr x n < 4294967296 := by
  unfold rr
  have h1 : 2 ^ n * 2 ^ (32 - n) = 4294967296 := by rw [← Nat.pow_add, show n + (32 - n) = 32 by omega]
  have h2 : x % 2 ^ n < 2 ^ n := Nat.mod_lt _ (Nat.two_pow_pos n)
  have h3 : x / 2 ^ n < 2 ^ (32 - n) := by
    rw [Nat.div_lt_iff_lt_mul (Nat.two_pow_pos n), Nat.mul_comm, h1]
    exact hx
  have h4 : (x % 2 ^ n + 1) * 2 ^ (32 - n) ≤ 2 ^ n * 2 ^ (32 - n) := Nat.mul_le_mul_right _ h2
  rw [h1, Nat.add_mul, Nat.one_mul] at h4
  omega
theorem xor_lt32 {a b : Nat} (ha : a < 4294967296) (hb : b < 4294967296) : a ^^^ b < 4294967296 := Nat.xor_lt_two_pow (n := 32) ha hb
theorem and_lt32 {a b : Nat} (ha : a < 4294967296) : a &&& b < 4294967296 := Nat.lt_of_le_of_lt Nat.and_le_left ha
theorem sg0_lt {x : Nat} (hx : x < 4294967296) : sg0 x < 4294967296 := xor_lt32 (xor_lt32 (rr_lt hx (by omega)) (rr_lt hx (by omega))) (by omega)
theorem sg1_lt {x : Nat} (hx : x < 4294967296) : sg1 x < 4294967296 := xor_lt32 (xor_lt32 (rr_lt hx (by omega)) (rr_lt hx (by omega))) (by omega)
theorem sS0_lt {x : Nat} (hx : x < 4294967296) : sS0 x < 4294967296 := xor_lt32 (xor_lt32 (rr_lt hx (by omega)) (rr_lt hx (by omega))) (rr_lt hx (by omega))
theorem sS1_lt {x : Nat} (hx : x < 4294967296) : sS1 x < 4294967296 := xor_lt32 (xor_lt32 (rr_lt hx (by omega)) (rr_lt hx (by omega))) (rr_lt hx (by omega))
theorem sCh_lt {e f g : Nat} (he : e < 4294967296) (hg : g < 4294967296) : sCh e f g < 4294967296 := xor_lt32 (and_lt32 he) (Nat.lt_of_le_of_lt Nat.and_le_right hg)
theorem sMa_lt {a b c : Nat} (ha : a < 4294967296) (hb : b < 4294967296) : sMa a b c < 4294967296 := xor_lt32 (xor_lt32 (and_lt32 ha) (and_lt32 ha)) (and_lt32 hb)
theorem sched_length (p : List Nat) (t : Nat) : (sched p t).length = t := by
  induction t with
  | zero => rfl
  | succ t ih => simp [sched, ih]
theorem sched_take (p : List Nat) : ∀ t s, s ≤ t → (sched p t).take s = sched p s := by
  intro t
  induction t with
  | zero =>
    intro s hs
    have : s = 0 := by omega
    subst this
    rfl
  | succ t ih =>
    intro s hs
    by_cases h : s = t + 1
    · subst h; rw [List.take_of_length_le (by rw [sched_length]; omega)]
    · rw [sched, List.take_append_of_le_length (by rw [sched_length]; omega)]
      exact ih s (by omega)
theorem sched_nth (p : List Nat) {s t : Nat} (h : s < t) : nth (sched p t) s = nextW p (sched p s) s := by
  have h1 : nth (sched p t) s = nth ((sched p t).take (s + 1)) s := by simp [nth, List.getElem?_take]
  rw [h1, sched_take p t (s + 1) (by omega), sched]
  simp [nth, List.getElem?_append_right, sched_length]
theorem be4_lt {p : List Nat} (hp : ∀ x ∈ p, x < 256) (i : Nat) : be4 p i < 4294967296 := by
  have h : ∀ j, nth p j < 256 := by
    intro j
    rcases Nat.lt_or_ge j p.length with h | h
    · rw [nth_get h]; exact hp _ (List.getElem_mem h)
    · simp [nth, List.getElem?_eq_none h]
  have := h i
  have := h (i + 1)
  have := h (i + 2)
  have := h (i + 3)
  unfold be4
  omega
theorem nextW_lt {p : List Nat} (hp : ∀ x ∈ p, x < 256) (w : List Nat) (t : Nat) : nextW p w t < 4294967296 := by
  unfold nextW
  split
  · exact be4_lt hp _
  · omega
theorem sched_lt {p : List Nat} (hp : ∀ x ∈ p, x < 256) {s t : Nat} (h : s < t) : nth (sched p t) s < 4294967296 := by
  rw [sched_nth p h]
  exact nextW_lt hp _ _
theorem kL_lt {t : Nat} (h : t < 64) : nth kL t < 4294967296 := by
  have : ∀ t, t < 64 → nth kL t < 4294967296 := by decide +kernel
  exact this t h
theorem rnd_wf (k w : Nat) {s : St} (h : s.Wf) : (rnd k w s).Wf := ⟨by show _ % _ < _; omega, h.a, h.b, h.c, by show _ % _ < _; omega, h.e, h.f, h.g⟩
theorem rounds_wf (w : List Nat) {s : St} (h : s.Wf) (t : Nat) : (rounds w s t).Wf := by
  induction t with
  | zero => exact h
  | succ t ih => exact rnd_wf _ _ ih
theorem add_wf (s t : St) : (s.add t).Wf := by constructor <;> (show _ % _ < _; omega)
theorem blk_wf (s : St) (p : List Nat) : (blk s p).Wf := add_wf _ _
theorem h0_wf : h0.Wf := by constructor <;> decide
theorem chain_wf {s : St} (h : s.Wf) (p : List Nat) (n : Nat) : (chain s p n).Wf := by
  cases n with
  | zero => exact h
  | succ n => exact blk_wf _ _
/-- The chain goes on. -/
theorem chain_add (s : St) (p q : List Nat) (n m : Nat) (h : p.length = 64 * n) : chain s (p ++ q) (n + m) = chain (chain s p n) q m := by
  induction m with
  | zero =>
    have : ∀ k, k ≤ n → chain s (p ++ q) k = chain s p k := by
      intro k
      induction k with
      | zero => intro _; rfl
      | succ k ih =>
        intro hk
        rw [chain, chain, ih (by omega)]
        congr 1
        rw [List.drop_append_of_le_length (by omega), List.take_append_of_le_length (by rw [List.length_drop]; omega)]
    exact this n (Nat.le_refl _)
  | succ m ih =>
    rw [show n + (m + 1) = (n + m) + 1 by omega, chain, chain, ih]
    congr 2
    rw [List.drop_append, List.drop_eq_nil_of_le (by omega), List.nil_append]
    congr 1
    omega
theorem chain_one (s : St) (p : List Nat) (h : p.length = 64) : chain s p 1 = blk s p := by
  show blk s ((p.drop 0).take 64) = _
  rw [List.drop_zero, List.take_of_length_le (by omega)]
theorem be8_length (n : Nat) : (be8 n).length = 8 := by simp [be8]
theorem padded_length (l : List Nat) : (padded l).length % 64 = 0 := by
  unfold padded padZ
  simp [be8_length]
  omega
theorem sha_length (l : List Nat) : (sha l).length = 32 := by simp [sha, sumOf]
end Go.Proofs.YtlhbijpmhokmnaaGreat
namespace Go.Proofs.YtlhbijpmhokmnaaGreat
open Go.RowKit
set_option linter.unusedSimpArgs false
set_option linter.unusedVariables false

def frc {α : Type} (x : Nat) (k : Nat → α) : α := Nat.rec (k 0) (fun n _ => k (Nat.succ n)) x
theorem frc_eq {α : Type} (x : Nat) (k : Nat → α) : frc x k = k x := by cases x <;> rfl
def frcL {α : Type} : List Nat → (List Nat → α) → α
  | [], k => k []
  | x :: xs, k => frc x fun y => frcL xs fun ys => k (y :: ys)
theorem frcL_eq {α : Type} (l : List Nat) : ∀ (k : List Nat → α), frcL l k = k l := by
  induction l with
  | nil => intro k; rfl
  | cons x xs ih => intro k; rw [frcL, frc_eq, ih]
def scE : Nat → List Nat → List Nat → Nat → List Nat
  | 0, _, w, _ => w
  | f + 1, p, w, t => frcL (w ++ [nextW p w t]) fun w' => scE f p w' (t + 1)
theorem scE_eq (p : List Nat) (f : Nat) : ∀ t, scE f p (sched p t) t = sched p (t + f) := by
  induction f with
  | zero => intro t; rfl
  | succ f ih =>
    intro t
    rw [scE, frcL_eq, show sched p t ++ [nextW p (sched p t) t] = sched p (t + 1) from rfl, ih (t + 1), show t + 1 + f = t + (f + 1) by omega]
def roE : Nat → List Nat → Nat → Nat → Nat → Nat → Nat → Nat → Nat → Nat → Nat → St
  | 0, _, _, a, b, c, d, e, f, g, h => ⟨a, b, c, d, e, f, g, h⟩
  | n + 1, w, t, a, b, c, d, e, f, g, h => frc (sOne (nth kL t) (nth w t) ⟨a, b, c, d, e, f, g, h⟩) fun one => frc (sTwo ⟨a, b, c, d, e, f, g, h⟩) fun two =>
      frc ((one + two) % 4294967296) fun x => frc ((d + one) % 4294967296) fun y => roE n w (t + 1) x a b c y e f g
theorem roE_eq (w : List Nat) (s0 : St) (n : Nat) : ∀ t (a b c d e f g h : Nat), rounds w s0 t = ⟨a, b, c, d, e, f, g, h⟩ → roE n w t a b c d e f g h = rounds w s0 (t + n) := by
  induction n with
  | zero => intro t a b c d e f g h hs; exact hs.symm
  | succ n ih =>
    intro t a b c d e f g h hs
    rw [roE]
    simp only [frc_eq]
    rw [ih (t + 1) _ _ _ _ _ _ _ _ (by rw [rounds, hs]; rfl), show t + 1 + n = t + (n + 1) by omega]
def frcS {α : Type} (s : St) (k : St → α) : α := frc s.a fun a => frc s.b fun b => frc s.c fun c => frc s.d fun d => frc s.e fun e => frc s.f fun f => frc s.g fun g => frc s.h fun h => k ⟨a, b, c, d, e, f, g, h⟩
theorem frcS_eq {α : Type} (s : St) (k : St → α) : frcS s k = k s := by unfold frcS; simp only [frc_eq]
def blkE {α : Type} (s : St) (p : List Nat) (k : St → α) : α := frcL p fun p' => frcL (scE 64 p' [] 0) fun w => frcS (roE 64 w 0 s.a s.b s.c s.d s.e s.f s.g s.h) fun r => frcS (s.add r) k
theorem blkE_eq {α : Type} (s : St) (p : List Nat) (k : St → α) : blkE s p k = k (blk s p) := by
  unfold blkE
  rw [frcL_eq, frcL_eq, frcS_eq, frcS_eq]
  have e1 : scE 64 p [] 0 = sched p 64 := by have := scE_eq p 64 0; rw [Nat.zero_add] at this; exact this
  rw [e1, roE_eq (sched p 64) s 64 0 _ _ _ _ _ _ _ _ rfl, Nat.zero_add]
  rfl
def chE : Nat → St → List Nat → St
  | 0, s, _ => s
  | n + 1, s, p => blkE s (p.take 64) fun s' => chE n s' (p.drop 64)
theorem chE_eq (n : Nat) : ∀ (s : St) (p : List Nat), chE n s p = chain s p n := by
  induction n with
  | zero => intro s p; rfl
  | succ n ih =>
    intro s p
    rw [chE, blkE_eq, ih]
    have : ∀ k, chain (blk s (p.take 64)) (p.drop 64) k = chain s p (k + 1) := by
      intro k
      induction k with
      | zero => show _ = blk s ((p.drop 0).take 64); rw [List.drop_zero]; rfl
      | succ k ih2 =>
        rw [chain, ih2, chain, List.drop_drop]
        congr 2
        rw [show 64 + 64 * k = 64 * (k + 1) by omega]
    exact this n
def shaE (l : List Nat) : List Nat := frcL (padded l) fun p => frcS (chE (p.length / 64) h0 p) fun s => sumOf s
theorem shaE_eq (l : List Nat) : shaE l = sha l := by
  unfold shaE sha shaSt
  rw [frcL_eq, frcS_eq, chE_eq]

theorem sha_nil : sha [] = [0xe3, 0xb0, 0xc4, 0x42, 0x98, 0xfc, 0x1c, 0x14, 0x9a, 0xfb, 0xf4, 0xc8, 0x99, 0x6f, 0xb9, 0x24, 0x27, 0xae, 0x41, 0xe4, 0x64, 0x9b, 0x93, 0x4c, 0xa4, 0x95, 0x99, 0x1b, 0x78, 0x52, 0xb8, 0x55] := by
  rw [← shaE_eq]; decide +kernel
theorem sha_abc : sha [97, 98, 99] = [0xba, 0x78, 0x16, 0xbf, 0x8f, 0x01, 0xcf, 0xea, 0x41, 0x41, 0x40, 0xde, 0x5d, 0xae, 0x22, 0x23, 0xb0, 0x03, 0x61, 0xa3, 0x96, 0x17, 0x7a, 0x9c, 0xb4, 0x10, 0xff, 0x61, 0xf2, 0x00, 0x15, 0xad] := by
  rw [← shaE_eq]; decide +kernel
theorem sha_long : sha [97, 98, 99, 100, 98, 99, 100, 101, 99, 100, 101, 102, 100, 101, 102, 103, 101, 102, 103, 104, 102, 103, 104, 105, 103, 104, 105, 106, 104, 105, 106, 107, 105, 106, 107, 108, 106, 107, 108, 109, 107, 108, 109, 110, 108, 109, 110, 111, 109, 110, 111, 112, 110, 111, 112, 113] =
    [0x24, 0x8d, 0x6a, 0x61, 0xd2, 0x06, 0x38, 0xb8, 0xe5, 0xc0, 0x26, 0x93, 0x0c, 0x3e, 0x60, 0x39, 0xa3, 0x3c, 0xe4, 0x59, 0x64, 0xff, 0x21, 0x67, 0xf6, 0xec, 0xed, 0xd4, 0x19, 0xdb, 0x06, 0xc1] := by
  rw [← shaE_eq]; decide +kernel
end Go.Proofs.YtlhbijpmhokmnaaGreat
