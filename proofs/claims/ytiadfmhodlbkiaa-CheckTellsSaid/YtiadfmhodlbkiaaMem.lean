/-
  PLAIN LEMMAS ON MEMORY: rows of bytes in one block, slices of bytes that read as a list. Conditions: none; no program in sight.
-/
import Derived.WalkKit
import Derived.Deep.OwnRows
import Derived.Deep.Draws
import Derived.Lib.Hide
import Derived.Deep.MidRow
import Derived.Deep.WholeRow
namespace Go.Proofs.Ytiadfmhodlbkiaa
open Go.RowKit

theorem nil_grown {w w' w'' : World} {row : Option Nat} (h : w.grownBy w' row) (k : w'.grownBy w'' row) : w.grownBy w'' row :=
  ⟨k.os.trans h.os, k.tape.trans h.tape, k.output.trans h.output, Nat.le_trans h.size k.size, fun i hi hne => (k.block i (Nat.lt_of_lt_of_le hi h.size) hne).trans (h.block i hi hne)⟩
theorem grown_refl (w : World) (row : Option Nat) : w.grownBy w row := ⟨rfl, rfl, rfl, Nat.le_refl _, fun _ _ _ => rfl⟩
theorem grown_drew {a w : World} {row : Option Nat} (h : a.grownBy w row) : a.grownBy w.drew row := ⟨h.os, h.tape, h.output, h.size, h.block⟩
theorem grown_drewN {a w : World} {row : Option Nat} (h : a.grownBy w row) (n : Nat) : a.grownBy (w.drewN n) row := ⟨h.os, h.tape, h.output, h.size, h.block⟩
theorem grown_alloc {a w : World} {row : Option Nat} (h : a.grownBy w row) (o : Obj) : a.grownBy (w.alloc o) row :=
  ⟨h.os, h.tape, h.output, Nat.le_trans h.size (by simp), fun i hi hne => (Below.heap_alloc w o i (Nat.lt_of_lt_of_le hi h.size)).trans (h.block i hi hne)⟩
theorem grown_set {a w : World} {g : Nat} (h : a.grownBy w (some g)) {p : Addr} (hp : p.block = g ∨ a.heap.size ≤ p.block) (u : Value) : a.grownBy (w.setCell p u) (some g) :=
  ⟨h.os, h.tape, h.output, by simpa [World.setCell] using h.size, fun i hi hne => (Below.heap_setCell w p u i (by
    rintro rfl
    rcases hp with hp | hp
    · exact hne (by rw [hp])
    · omega)).trans (h.block i hi hne)⟩
theorem grown_of_below {a w : World} (h : Below a.heap.size a w) (row : Option Nat) : a.grownBy w row := ⟨h.os, h.tape, h.output, h.size, fun i hi _ => h.block i hi⟩
theorem grown_cell {w w' : World} {g : Nat} (h : w.grownBy w' (some g)) {p : Addr} (hp : p.block < w.heap.size) (hne : p.block ≠ g) : w'.cell? p = w.cell? p :=
  World.cell?_of_block (h.block p.block hp (fun e => hne (by injection e)))
theorem grown_row {w w' : World} {g b t n : Nat} {f : Nat → Value} (h : w.grownBy w' (some g)) (hr : w.rowIs b t n f) (hne : b ≠ g) : w'.rowIs b t n f :=
  hr.of_block (h.block b hr.lt (fun e => hne (by injection e)))
theorem below_row {w w' : World} {B b t n : Nat} {f : Nat → Value} (h : Below B w w') (hr : w.rowIs b t n f) (hb : b < B) : w'.rowIs b t n f :=
  hr.of_block (h.block b hb)
/-- Where the one block that was written is itself new, nothing that was there has changed. -/
theorem below_of_grown {B g : Nat} {w0 w w' : World} (h : Below B w0 w) (hg : w.grownBy w' (some g)) (hB : B ≤ w.heap.size) (hg' : B ≤ g) : Below B w0 w' :=
  h.grown hg hB (fun k hk => by injection hk with hk; omega)
theorem below_drewN' {B : Nat} {a w : World} (h : Below B a w) (n : Nat) : Below B a (w.drewN n) := ⟨h.os, h.tape, h.output, h.size, h.block⟩
theorem rowIs_drewN' {w : World} {b t n : Nat} {f : Nat → Value} (h : w.rowIs b t n f) (k : Nat) : (w.drewN k).rowIs b t n f := h

/-- A whole array is stored into the block that was made last. -/
theorem wpList_store_new {P : Program} {ops : Array Oper} {rest : List Oper} {op : Oper} {a : Act} {w : World} {Q : Exit → Act → World → Prop} (ty : TypeId) (x y : Operand) (hgd : op.guard = none) (ho : op.op = .store ty x y)
    (c cells : Array Value) (hx : a.eval x = .pointer (some ⟨w.heap.size, 0, none⟩)) (hy : a.eval y = .agg cells)
    (hi : (P.info? ty).map (·.size) = some cells.size) (hc : c.size = cells.size) (h1 : cells.all (·.oneCell') = true)
    (h : wpList P ops Q rest (a.put op.dst undef) (w.alloc (.cells cells ty))) : wpList P ops Q (op :: rest) a (w.alloc (.cells c ty)) :=
  wpList_plain hgd fun _ hK => by
    unfold Oper.wp execOp
    simp only [ho, hx, hy, Sem.run_bind, Result.andThen_ok, run_storeAt_new w ty c cells hi hc h1]
    exact hK _ _ h
/-- The cells of a row of bytes are one cell each. -/
theorem bytes_oneCell {cs : Array Value} {n : Nat} {f : Nat → Nat} (hn : cs.size = n) (hc : ∀ i, i < n → cs[i]? = some (.int .u8 (f i))) : cs.all (·.oneCell') = true := by
  rw [Array.all_eq_true_iff_forall_mem]
  intro v hv
  obtain ⟨i, hi, rfl⟩ := Array.mem_iff_getElem.1 hv
  have := hc i (by omega)
  rw [Array.getElem?_eq_getElem hi] at this
  injection this with this
  rw [this]
  rfl

/-- The first k places are a's, the others b's. -/
def upd (k : Nat) (a b : Nat → Nat) (j : Nat) : Nat := if j < k then a j else b j
theorem upd_zero (a b : Nat → Nat) (j : Nat) : upd 0 a b j = b j := by simp [upd]
theorem upd_lt {k j : Nat} (a b : Nat → Nat) (h : j < k) : upd k a b j = a j := by simp [upd, h]
theorem upd_ge {k j : Nat} (a b : Nat → Nat) (h : k ≤ j) : upd k a b j = b j := by rw [upd, if_neg (by omega)]
theorem row_upd {w : World} {g t n k : Nat} {a b : Nat → Nat} (h : w.rowIs g t n (fun j => .int .u8 (upd k a b j : Nat))) :
    (w.setCell ⟨g, k, none⟩ (.int .u8 (a k : Nat))).rowIs g t n (fun j => .int .u8 (upd (k + 1) a b j : Nat)) := by
  refine (h.set k (.int .u8 (a k : Nat))).congr ?_
  intro i hi
  by_cases e : i = k
  · subst e
    rw [if_pos rfl, upd_lt a b (by omega)]
  · rw [if_neg e]
    rcases Nat.lt_or_ge i k with h1 | h1
    · rw [upd_lt a b h1, upd_lt a b (by omega)]
    · rw [upd_ge a b h1, upd_ge a b (by omega)]
end Go.Proofs.Ytiadfmhodlbkiaa
