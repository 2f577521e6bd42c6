/-
  WHAT A RIGHT TREE IS. Plain. Conditions: none.
-/
import Derived.Test.YtiadfmhodlbkiaaCodeR2
import Derived.Test.YtiadfmhodlbkiaaSamC
namespace Go.Proofs.Ytiadfmhodlbkiaa
set_option linter.unusedSimpArgs false
set_option linter.unusedVariables false
def plainS (i : InsS) (post : Bool) : Bool := rightI i.o i.d i.s i.n && !decide (i.o = 0) && !decide (27 ≤ i.o) && !(decide (19 ≤ i.o) && decide (i.o ≤ 21)) && (post || !decide (i.o = 26))
def condS (c : ConS) : Bool := rightI c.i.o c.i.d c.i.s c.i.n && decide (19 ≤ c.i.o) && decide (c.i.o ≤ 21)
def bareS (x : StS) : Bool := decide (x.c = c0) && decide (x.b.len + x.e.len = 0)
def rightS (post : Bool) (x : StS) : Bool :=
  if x.k = 1 then bareS x && plainS x.i post
  else if x.k = 4 then bareS x && decide (x.i = i0)
  else if x.k = 2 ∨ x.k = 3 then decide (x.i = i0) && condS x.c && (decide (x.k = 2) || decide (x.e.len = 0))
  else false
/-- How many statements there are, down to some levels. -/
def cnt : Nat → Sts → Nat
  | 0, _ => 0
  | _ + 1, .nil => 0
  | lv + 1, .cons _ _ _ b e _ r => 1 + cnt lv b + cnt lv e + cnt (lv + 1) r
def alR (post : Bool) : Nat → Sts → Bool
  | 0, _ => true
  | _ + 1, .nil => true
  | lv + 1, .cons k i c b e ln r => rightS post ⟨k, i, c, b, e, ln⟩ && alR post lv b && alR post lv e && alR post (lv + 1) r
/-- Are they nested so many levels at most? -/
def dpt : Nat → Sts → Bool
  | _, .nil => true
  | 0, .cons .. => false
  | lv + 1, .cons _ _ _ b e _ r => dpt lv b && dpt lv e && dpt (lv + 1) r
def rightT (post : Bool) (T : Sts) : Bool := dpt 20 T && alR post 20 T && decide (cnt 20 T ≤ 500)
def configT (c : CfgS) : Bool := rightT false c.code && rightT true c.post && (c.has || (decide (c.post.len = 0) && decide (c.ph = 0) && decide (c.pm = 0)))
def Sts.drp : Nat → Sts → Sts
  | 0, T => T
  | _ + 1, .nil => .nil
  | n + 1, .cons _ _ _ _ _ _ r => Sts.drp n r
theorem Sts.drp_nth : ∀ {T : Sts} {j : Nat}, j < T.len → Sts.drp j T = .cons (T.nth j).k (T.nth j).i (T.nth j).c (T.nth j).b (T.nth j).e (T.nth j).ln (Sts.drp (j + 1) T)
  | .nil, _, h => absurd h (Nat.not_lt_zero _)
  | .cons k i c b e ln r, 0, _ => rfl
  | .cons k i c b e ln r, j + 1, h => Sts.drp_nth (T := r) (j := j) (by have : j + 1 < r.len + 1 := h; omega)
theorem Sts.drp_len : ∀ (T : Sts), Sts.drp T.len T = .nil
  | .nil => rfl
  | .cons k i c b e ln r => Sts.drp_len r
theorem Sts.len_all : ∀ (T : Sts), T.len ≤ T.all
  | .nil => Nat.zero_le _
  | .cons k i c b e ln r => by
    have := Sts.len_all r
    show r.len + 1 ≤ b.all + e.all + r.all + 1
    omega
theorem cnt_zero (T : Sts) : cnt 0 T = 0 := by cases T <;> rfl
theorem alR_zero (post : Bool) (T : Sts) : alR post 0 T = true := by cases T <;> rfl
theorem dpt_nil (lv : Nat) : dpt lv .nil = true := by cases lv <;> rfl
theorem cnt_nil (lv : Nat) : cnt lv .nil = 0 := by cases lv <;> rfl
theorem alR_nil (post : Bool) (lv : Nat) : alR post lv .nil = true := by cases lv <;> rfl
theorem cnt_all : ∀ (lv : Nat) (T : Sts), cnt lv T ≤ T.all
  | 0, T => by rw [cnt_zero]; exact Nat.zero_le _
  | _ + 1, .nil => Nat.zero_le _
  | lv + 1, .cons k i c b e ln r => by
    have h1 := cnt_all lv b
    have h2 := cnt_all lv e
    have h3 := cnt_all (lv + 1) r
    show 1 + cnt lv b + cnt lv e + cnt (lv + 1) r ≤ b.all + e.all + r.all + 1
    omega
/-- All numbers are what a byte can hold. -/
def Sts.b8 : Sts → Prop
  | .nil => True
  | .cons k i c b e _ r => k < 256 ∧ i.o < 256 ∧ c.i.o < 256 ∧ b.b8 ∧ e.b8 ∧ r.b8
theorem Sts.b8_nth : ∀ {T : Sts} {j : Nat}, T.b8 → j < T.len → (T.nth j).k < 256 ∧ (T.nth j).i.o < 256 ∧ (T.nth j).c.i.o < 256 ∧ (T.nth j).b.b8 ∧ (T.nth j).e.b8
  | .nil, _, _, h => absurd h (Nat.not_lt_zero _)
  | .cons k i c b e ln r, 0, h, _ => ⟨h.1, h.2.1, h.2.2.1, h.2.2.2.1, h.2.2.2.2.1⟩
  | .cons k i c b e ln r, j + 1, h, hj => Sts.b8_nth (T := r) (j := j) h.2.2.2.2.2 (by have : j + 1 < r.len + 1 := hj; omega)
end Go.Proofs.Ytiadfmhodlbkiaa
