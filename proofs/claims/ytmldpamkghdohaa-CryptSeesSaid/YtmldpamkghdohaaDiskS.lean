/-
  WHAT A DISK DOES: plain definitions; how it lies in memory. Conditions: none.
-/
import Derived.Test.YtmldpamkghdohaaSlices2
namespace Go.Proofs.Ytmldpamkghdohaa
open Go.RowKit
set_option linter.unusedSimpArgs false
set_option linter.unusedVariables false

structure DkS where
  most : Nat
  now : List Nat
  old : List Nat
  floor : Nat
  down : Bool
  armed : Int
  fails : Nat
  err : Int
/-- What may be said of a disk at any time. -/
structure DkS.Wf (d : DkS) : Prop where
  most : d.most ≤ 4194304
  now : d.now.length ≤ d.most
  old : d.old.length ≤ d.most
  floor : d.floor ≤ d.most
  armed0 : -1 ≤ d.armed
  armed : d.armed ≤ 9223372036854775807
  fails : d.fails ≤ 9223372036854775807
/-- Ahead of an operation: an error, or none; the disk then. -/
def DkS.pre (d : DkS) : Option Int × DkS :=
  if d.down = true then (some 11, d)
  else if d.armed = 0 then (some 11, { d with down := true })
  else if d.fails = 0 then (none, { d with armed := if 0 < d.armed then d.armed - 1 else d.armed })
  else if d.fails = 1 then (some d.err, { d with armed := if 0 < d.armed then d.armed - 1 else d.armed, fails := 0 })
  else (none, { d with armed := if 0 < d.armed then d.armed - 1 else d.armed, fails := d.fails - 1 })
def DkS.op (d : DkS) (f : DkS → Int × DkS) : Int × DkS := match d.pre with
  | (some e, d') => (e, d')
  | (none, d') => f d'
def DkS.append (d : DkS) (m : List Nat) : Int × DkS := d.op fun d => if d.most < d.now.length + m.length then (5, d) else (0, { d with now := d.now ++ m })
def DkS.sync (d : DkS) : Int × DkS := d.op fun d => (0, { d with old := d.now, floor := d.now.length })
def DkS.trunc (d : DkS) (n : Int) : Int × DkS := if n < 0 ∨ (d.now.length : Int) < n then (2, d) else d.op fun d => (0, { d with now := d.now.take n.toNat, floor := min d.floor n.toNat })
theorem DkS.pre_keeps (d : DkS) : d.pre.2.most = d.most ∧ d.pre.2.now = d.now ∧ d.pre.2.old = d.old ∧ d.pre.2.floor = d.floor ∧ d.pre.2.err = d.err := by
  unfold DkS.pre
  repeat' split
  all_goals exact ⟨rfl, rfl, rfl, rfl, rfl⟩
theorem DkS.Wf.pre {d : DkS} (h : d.Wf) : d.pre.2.Wf := by
  obtain ⟨h1, h2, h3, h4, h5, h6, h7⟩ := h
  unfold DkS.pre
  repeat' split
  all_goals (constructor <;> simp <;> try omega)
  all_goals (split <;> omega)

/-- A slice that reads as l; its block. -/
def Sl (w : World) (v : Value) (l : List Nat) (b : Option Nat) : Prop := ∃ A c, v = .slice A l.length c ∧ l.length ≤ c ∧ c ≤ 9223372036854775807 ∧ Rd w A l ∧ A.map (·.block) = b
/-- The fields. -/
def dkC (d : DkS) (nv ov : Value) : Nat → Value
  | 0 => .bool true
  | 1 => .int .i64 d.most
  | 2 => nv
  | 3 => ov
  | 4 => .int .i64 d.floor
  | 5 => .bool d.down
  | 6 => .int .i64 d.armed
  | 7 => .int .i64 d.fails
  | _ => .int .i64 d.err
/-- A disk at block g; nb, ob: its two lists' blocks. -/
structure Dk (w : World) (g : Nat) (nb ob : Option Nat) (d : DkS) : Prop where
  wf : d.Wf
  nn : nb ≠ some g
  on : ob ≠ some g
  nl : ∀ k, nb = some k → k < w.heap.size
  ol : ∀ k, ob = some k → k < w.heap.size
  lies : ∃ nv ov, w.rowIs g 64 9 (dkC d nv ov) ∧ Sl w nv d.now nb ∧ Sl w ov d.old ob
/-- What is new, or as it was. -/
def New (w : World) (x y : Option Nat) : Prop := y = x ∨ ∀ k, y = some k → w.heap.size ≤ k

section
variable {w w' : World} {v : Value} {l : List Nat} {b nb ob : Option Nat} {g : Nat} {d : DkS}
theorem Sl.keep (h : Sl w v l b) (hs : w.heap.size ≤ w'.heap.size) (hk : ∀ k, b = some k → k < w.heap.size → w'.heap[k]? = w.heap[k]?) : Sl w' v l b := by
  obtain ⟨A, c, rfl, h1, h2, h3, rfl⟩ := h
  refine ⟨A, c, rfl, h1, h2, h3.keep hs fun p hp ⟨a, ha, e⟩ => World.cell?_of_block (hk p.block ?_ hp), rfl⟩
  rw [ha, ← e]
  rfl
theorem Sl.grown {row : Option Nat} (h : Sl w v l b) (hg : w.grownBy w' row) (hne : ∀ k, b = some k → some k ≠ row) : Sl w' v l b :=
  h.keep hg.size fun k hk hlt => hg.block k hlt (hne k hk)
theorem Sl.below (h : Sl w v l b) (hb : Below w.heap.size w w') : Sl w' v l b := h.keep hb.size fun k _ hlt => hb.block k hlt
theorem Sl.nil (w : World) : Sl w (.slice none 0 0) [] none := ⟨none, 0, rfl, Nat.le_refl _, by omega, Rd.nil, rfl⟩
theorem Dk.lt (h : Dk w g nb ob d) : g < w.heap.size := by obtain ⟨nv, ov, h1, _⟩ := h.lies; exact h1.lt
theorem Dk.below (h : Dk w g nb ob d) (hb : Below w.heap.size w w') : Dk w' g nb ob d := by
  obtain ⟨nv, ov, h1, h2, h3⟩ := h.lies
  exact ⟨h.wf, h.nn, h.on, fun k e => Nat.lt_of_lt_of_le (h.nl k e) hb.size, fun k e => Nat.lt_of_lt_of_le (h.ol k e) hb.size, nv, ov, h1.of_block (hb.block g h1.lt), h2.below hb, h3.below hb⟩
theorem Dk.grown {row : Option Nat} (h : Dk w g nb ob d) (hg : w.grownBy w' row) (h1 : row ≠ some g) (h2 : ∀ k, nb = some k → row ≠ some k) (h3 : ∀ k, ob = some k → row ≠ some k) : Dk w' g nb ob d := by
  obtain ⟨nv, ov, k1, k2, k3⟩ := h.lies
  exact ⟨h.wf, h.nn, h.on, fun k e => Nat.lt_of_lt_of_le (h.nl k e) hg.size, fun k e => Nat.lt_of_lt_of_le (h.ol k e) hg.size, nv, ov, k1.of_block (hg.block g k1.lt h1.symm), k2.grown hg (fun k e => (h2 k e).symm), k3.grown hg (fun k e => (h3 k e).symm)⟩
theorem Dk.alloc (h : Dk w g nb ob d) (o : Obj) : Dk (w.alloc o) g nb ob d := h.below ((Below.refl _ _).alloc (Nat.le_refl _) o)
theorem Dk.drew (h : Dk w g nb ob d) : Dk w.drew g nb ob d := h.below (below_drewN' (Below.refl _ _) 1)
/-- A field written. -/
theorem Dk.set {d' : DkS} (h : Dk w g nb ob d) (j : Nat) (u : Value) (hj : j ≠ 2 ∧ j ≠ 3) (hd : d'.now = d.now ∧ d'.old = d.old) (hw : d'.Wf)
    (hc : ∀ nv ov i, i < 9 → dkC d' nv ov i = if i = j then u else dkC d nv ov i) : Dk (w.setCell ⟨g, j, none⟩ u) g nb ob d' := by
  obtain ⟨nv, ov, k1, k2, k3⟩ := h.lies
  have hg : w.grownBy (w.setCell ⟨g, j, none⟩ u) (some g) := grown_set (grown_refl _ _) (.inl rfl) u
  refine ⟨hw, h.nn, h.on, fun k e => Nat.lt_of_lt_of_le (h.nl k e) hg.size, fun k e => Nat.lt_of_lt_of_le (h.ol k e) hg.size, nv, ov, (k1.set j u).congr fun i hi => (hc nv ov i hi).symm, ?_, ?_⟩
  · rw [hd.1]; exact k2.grown hg (fun k e e2 => h.nn (by rw [e, e2]))
  · rw [hd.2]; exact k3.grown hg (fun k e e2 => h.on (by rw [e, e2]))
theorem New.refl (w : World) (x : Option Nat) : New w x x := .inl rfl
theorem New.trans {x y z : Option Nat} (h : New w x y) (hs : w.heap.size ≤ w'.heap.size) (k : New w' y z) : New w x z := by
  rcases k with rfl | k
  · exact h
  · exact .inr fun j e => Nat.le_trans hs (k j e)
end
end Go.Proofs.Ytmldpamkghdohaa
