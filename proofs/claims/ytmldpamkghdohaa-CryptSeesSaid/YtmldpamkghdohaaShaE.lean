/-
  SHA-256 RECKONED BY THE KERNEL: a form that does each step once; the fixed examples. Conditions: none.
-/
import Derived.Test.YtmldpamkghdohaaShaSpec
namespace Go.Proofs.Ytmldpamkghdohaa
open Go.RowKit
set_option linter.unusedSimpArgs false
set_option linter.unusedVariables false

def frc {α : Type} (x : Nat) (k : Nat → α) : α := Nat.rec (k 0) (fun n _ => k (Nat.succ n)) x
theorem frc_eq {α : Type} (x : Nat) (k : Nat → α) : frc x k = k x := by cases x <;> rfl
def frcL {α : Type} : List Nat → (List Nat → α) → α
  | [], k => k []
  | x :: xs, k => frc x fun y => frcL xs fun ys => k (y :: ys)
theorem frcL_eq {α : Type} (l : List Nat) : ∀ (k : List Nat → α), frcL l k = k l := by
  induction l with
  | nil => intro k; rfl
  | cons x xs ih => intro k; rw [frcL, frc_eq, ih]
def scE : Nat → List Nat → List Nat → Nat → List Nat
  | 0, _, w, _ => w
  | f + 1, p, w, t => frcL (w ++ [nextW p w t]) fun w' => scE f p w' (t + 1)
theorem scE_eq (p : List Nat) (f : Nat) : ∀ t, scE f p (sched p t) t = sched p (t + f) := by
  induction f with
  | zero => intro t; rfl
  | succ f ih =>
    intro t
    rw [scE, frcL_eq, show sched p t ++ [nextW p (sched p t) t] = sched p (t + 1) from rfl, ih (t + 1), show t + 1 + f = t + (f + 1) by omega]
def roE : Nat → List Nat → Nat → Nat → Nat → Nat → Nat → Nat → Nat → Nat → Nat → St
  | 0, _, _, a, b, c, d, e, f, g, h => ⟨a, b, c, d, e, f, g, h⟩
  | n + 1, w, t, a, b, c, d, e, f, g, h => frc (sOne (nth kL t) (nth w t) ⟨a, b, c, d, e, f, g, h⟩) fun one => frc (sTwo ⟨a, b, c, d, e, f, g, h⟩) fun two =>
      frc ((one + two) % 4294967296) fun x => frc ((d + one) % 4294967296) fun y => roE n w (t + 1) x a b c y e f g
theorem roE_eq (w : List Nat) (s0 : St) (n : Nat) : ∀ t (a b c d e f g h : Nat), rounds w s0 t = ⟨a, b, c, d, e, f, g, h⟩ → roE n w t a b c d e f g h = rounds w s0 (t + n) := by
  induction n with
  | zero => intro t a b c d e f g h hs; exact hs.symm
  | succ n ih =>
    intro t a b c d e f g h hs
    rw [roE]
    simp only [frc_eq]
    rw [ih (t + 1) _ _ _ _ _ _ _ _ (by rw [rounds, hs]; rfl), show t + 1 + n = t + (n + 1) by omega]
def frcS {α : Type} (s : St) (k : St → α) : α := frc s.a fun a => frc s.b fun b => frc s.c fun c => frc s.d fun d => frc s.e fun e => frc s.f fun f => frc s.g fun g => frc s.h fun h => k ⟨a, b, c, d, e, f, g, h⟩
theorem frcS_eq {α : Type} (s : St) (k : St → α) : frcS s k = k s := by unfold frcS; simp only [frc_eq]
def blkE {α : Type} (s : St) (p : List Nat) (k : St → α) : α := frcL p fun p' => frcL (scE 64 p' [] 0) fun w => frcS (roE 64 w 0 s.a s.b s.c s.d s.e s.f s.g s.h) fun r => frcS (s.add r) k
theorem blkE_eq {α : Type} (s : St) (p : List Nat) (k : St → α) : blkE s p k = k (blk s p) := by
  unfold blkE
  rw [frcL_eq, frcL_eq, frcS_eq, frcS_eq]
  have e1 : scE 64 p [] 0 = sched p 64 := by have := scE_eq p 64 0; rw [Nat.zero_add] at this; exact this
  rw [e1, roE_eq (sched p 64) s 64 0 _ _ _ _ _ _ _ _ rfl, Nat.zero_add]
  rfl
def chE : Nat → St → List Nat → St
  | 0, s, _ => s
  | n + 1, s, p => blkE s (p.take 64) fun s' => chE n s' (p.drop 64)
theorem chE_eq (n : Nat) : ∀ (s : St) (p : List Nat), chE n s p = chain s p n := by
  induction n with
  | zero => intro s p; rfl
  | succ n ih =>
    intro s p
    rw [chE, blkE_eq, ih]
    have : ∀ k, chain (blk s (p.take 64)) (p.drop 64) k = chain s p (k + 1) := by
      intro k
      induction k with
      | zero => show _ = blk s ((p.drop 0).take 64); rw [List.drop_zero]; rfl
      | succ k ih2 =>
        rw [chain, ih2, chain, List.drop_drop]
        congr 2
        rw [show 64 + 64 * k = 64 * (k + 1) by omega]
    exact this n
def shaE (l : List Nat) : List Nat := frcL (padded l) fun p => frcS (chE (p.length / 64) h0 p) fun s => sumOf s
theorem shaE_eq (l : List Nat) : shaE l = sha l := by
  unfold shaE sha shaSt
  rw [frcL_eq, frcS_eq, chE_eq]

theorem sha_nil : sha [] = [0xe3, 0xb0, 0xc4, 0x42, 0x98, 0xfc, 0x1c, 0x14, 0x9a, 0xfb, 0xf4, 0xc8, 0x99, 0x6f, 0xb9, 0x24, 0x27, 0xae, 0x41, 0xe4, 0x64, 0x9b, 0x93, 0x4c, 0xa4, 0x95, 0x99, 0x1b, 0x78, 0x52, 0xb8, 0x55] := by
  rw [← shaE_eq]; decide +kernel
theorem sha_abc : sha [97, 98, 99] = [0xba, 0x78, 0x16, 0xbf, 0x8f, 0x01, 0xcf, 0xea, 0x41, 0x41, 0x40, 0xde, 0x5d, 0xae, 0x22, 0x23, 0xb0, 0x03, 0x61, 0xa3, 0x96, 0x17, 0x7a, 0x9c, 0xb4, 0x10, 0xff, 0x61, 0xf2, 0x00, 0x15, 0xad] := by
  rw [← shaE_eq]; decide +kernel
theorem sha_long : sha [97, 98, 99, 100, 98, 99, 100, 101, 99, 100, 101, 102, 100, 101, 102, 103, 101, 102, 103, 104, 102, 103, 104, 105, 103, 104, 105, 106, 104, 105, 106, 107, 105, 106, 107, 108, 106, 107, 108, 109, 107, 108, 109, 110, 108, 109, 110, 111, 109, 110, 111, 112, 110, 111, 112, 113] =
    [0x24, 0x8d, 0x6a, 0x61, 0xd2, 0x06, 0x38, 0xb8, 0xe5, 0xc0, 0x26, 0x93, 0x0c, 0x3e, 0x60, 0x39, 0xa3, 0x3c, 0xe4, 0x59, 0x64, 0xff, 0x21, 0x67, 0xf6, 0xec, 0xed, 0xd4, 0x19, 0xdb, 0x06, 0xc1] := by
  rw [← shaE_eq]; decide +kernel
end Go.Proofs.Ytmldpamkghdohaa
