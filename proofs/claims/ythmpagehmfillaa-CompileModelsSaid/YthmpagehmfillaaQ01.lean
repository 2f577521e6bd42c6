/-
  PLAIN LEMMAS ON MEMORY: rows of bytes in one block, slices of bytes that read as a list. Conditions: none; no program in sight.
  THE WALK OF code.Right: may an instruction be? Conditions: none.
-/
import Derived.WalkKit
import Derived.Deep.OwnRows
import Derived.Deep.Draws
import Derived.Lib.Hide
import Derived.Deep.MidRow
import Derived.Deep.WholeRow
import Derived.Test.YthmpagehmfillaaProg
import Derived.ProofKit
namespace Go.Proofs.Ythmpagehmfillaa
open Go.RowKit

theorem nil_grown {w w' w'' : World} {row : Option Nat} (h : w.grownBy w' row) (k : w'.grownBy w'' row) : w.grownBy w'' row :=
  ⟨k.os.trans h.os, k.tape.trans h.tape, k.output.trans h.output, Nat.le_trans h.size k.size, fun i hi hne => (k.block i (Nat.lt_of_lt_of_le hi h.size) hne).trans (h.block i hi hne)⟩
theorem grown_refl (w : World) (row : Option Nat) : w.grownBy w row := ⟨rfl, rfl, rfl, Nat.le_refl _, fun _ _ _ => rfl⟩
theorem grown_drew {a w : World} {row : Option Nat} (h : a.grownBy w row) : a.grownBy w.drew row := ⟨h.os, h.tape, h.output, h.size, h.block⟩
theorem grown_drewN {a w : World} {row : Option Nat} (h : a.grownBy w row) (n : Nat) : a.grownBy (w.drewN n) row := ⟨h.os, h.tape, h.output, h.size, h.block⟩
theorem grown_alloc {a w : World} {row : Option Nat} (h : a.grownBy w row) (o : Obj) : a.grownBy (w.alloc o) row :=
  ⟨h.os, h.tape, h.output, Nat.le_trans h.size (by simp), fun i hi hne => (Below.heap_alloc w o i (Nat.lt_of_lt_of_le hi h.size)).trans (h.block i hi hne)⟩
theorem grown_set {a w : World} {g : Nat} (h : a.grownBy w (some g)) {p : Addr} (hp : p.block = g ∨ a.heap.size ≤ p.block) (u : Value) : a.grownBy (w.setCell p u) (some g) :=
  ⟨h.os, h.tape, h.output, by simpa [World.setCell] using h.size, fun i hi hne => (Below.heap_setCell w p u i (by
    rintro rfl
    rcases hp with hp | hp
    · exact hne (by rw [hp])
    · omega)).trans (h.block i hi hne)⟩
theorem grown_of_below {a w : World} (h : Below a.heap.size a w) (row : Option Nat) : a.grownBy w row := ⟨h.os, h.tape, h.output, h.size, fun i hi _ => h.block i hi⟩
theorem grown_cell {w w' : World} {g : Nat} (h : w.grownBy w' (some g)) {p : Addr} (hp : p.block < w.heap.size) (hne : p.block ≠ g) : w'.cell? p = w.cell? p :=
  World.cell?_of_block (h.block p.block hp (fun e => hne (by injection e)))
theorem grown_row {w w' : World} {g b t n : Nat} {f : Nat → Value} (h : w.grownBy w' (some g)) (hr : w.rowIs b t n f) (hne : b ≠ g) : w'.rowIs b t n f :=
  hr.of_block (h.block b hr.lt (fun e => hne (by injection e)))
theorem below_row {w w' : World} {B b t n : Nat} {f : Nat → Value} (h : Below B w w') (hr : w.rowIs b t n f) (hb : b < B) : w'.rowIs b t n f :=
  hr.of_block (h.block b hb)
/-- Where the one block that was written is itself new, nothing that was there has changed. -/
theorem below_of_grown {B g : Nat} {w0 w w' : World} (h : Below B w0 w) (hg : w.grownBy w' (some g)) (hB : B ≤ w.heap.size) (hg' : B ≤ g) : Below B w0 w' :=
  h.grown hg hB (fun k hk => by injection hk with hk; omega)
theorem below_drewN' {B : Nat} {a w : World} (h : Below B a w) (n : Nat) : Below B a (w.drewN n) := ⟨h.os, h.tape, h.output, h.size, h.block⟩
theorem rowIs_drewN' {w : World} {b t n : Nat} {f : Nat → Value} (h : w.rowIs b t n f) (k : Nat) : (w.drewN k).rowIs b t n f := h

/-- A whole array is stored into the block that was made last. -/
theorem wpList_store_new {P : Program} {ops : Array Oper} {rest : List Oper} {op : Oper} {a : Act} {w : World} {Q : Exit → Act → World → Prop} (ty : TypeId) (x y : Operand) (hgd : op.guard = none) (ho : op.op = .store ty x y)
    (c cells : Array Value) (hx : a.eval x = .pointer (some ⟨w.heap.size, 0, none⟩)) (hy : a.eval y = .agg cells)
    (hi : (P.info? ty).map (·.size) = some cells.size) (hc : c.size = cells.size) (h1 : cells.all (·.oneCell') = true)
    (h : wpList P ops Q rest (a.put op.dst undef) (w.alloc (.cells cells ty))) : wpList P ops Q (op :: rest) a (w.alloc (.cells c ty)) :=
  wpList_plain hgd fun _ hK => by
    unfold Oper.wp execOp
    simp only [ho, hx, hy, Sem.run_bind, Result.andThen_ok, run_storeAt_new w ty c cells hi hc h1]
    exact hK _ _ h
/-- The cells of a row of bytes are one cell each. -/
theorem bytes_oneCell {cs : Array Value} {n : Nat} {f : Nat → Nat} (hn : cs.size = n) (hc : ∀ i, i < n → cs[i]? = some (.int .u8 (f i))) : cs.all (·.oneCell') = true := by
  rw [Array.all_eq_true_iff_forall_mem]
  intro v hv
  obtain ⟨i, hi, rfl⟩ := Array.mem_iff_getElem.1 hv
  have := hc i (by omega)
  rw [Array.getElem?_eq_getElem hi] at this
  injection this with this
  rw [this]
  rfl

/-- The first k places are a's, the others b's. -/
def upd (k : Nat) (a b : Nat → Nat) (j : Nat) : Nat := if j < k then a j else b j
theorem upd_zero (a b : Nat → Nat) (j : Nat) : upd 0 a b j = b j := by simp [upd]
theorem upd_lt {k j : Nat} (a b : Nat → Nat) (h : j < k) : upd k a b j = a j := by simp [upd, h]
theorem upd_ge {k j : Nat} (a b : Nat → Nat) (h : k ≤ j) : upd k a b j = b j := by rw [upd, if_neg (by omega)]
theorem row_upd {w : World} {g t n k : Nat} {a b : Nat → Nat} (h : w.rowIs g t n (fun j => .int .u8 (upd k a b j : Nat))) :
    (w.setCell ⟨g, k, none⟩ (.int .u8 (a k : Nat))).rowIs g t n (fun j => .int .u8 (upd (k + 1) a b j : Nat)) := by
  refine (h.set k (.int .u8 (a k : Nat))).congr ?_
  intro i hi
  by_cases e : i = k
  · subst e
    rw [if_pos rfl, upd_lt a b (by omega)]
  · rw [if_neg e]
    rcases Nat.lt_or_ge i k with h1 | h1
    · rw [upd_lt a b h1, upd_lt a b (by omega)]
    · rw [upd_ge a b h1, upd_ge a b (by omega)]
end Go.Proofs.Ythmpagehmfillaa
namespace Go.Proofs.Ythmpagehmfillaa
open Go.RowKit
set_option linter.unusedSimpArgs false
set_option linter.unusedVariables false
/-- What an instruction may have. -/
structure Shp where
  known : Bool
  place : Int
  from' : Bool
  operand : Bool
  number : Bool
  jump : Bool
  long : Bool
  deriving DecidableEq
def shp (o : Nat) : Shp :=
  if o = 0 ∨ (24 ≤ o ∧ o ≤ 26) then ⟨true, -1, false, false, false, false, false⟩
  else if o = 1 then ⟨true, 6, true, false, false, false, false⟩
  else if o = 2 then ⟨true, 6, false, false, true, false, false⟩
  else if o ≤ 7 then ⟨true, 6, false, false, false, false, false⟩
  else if o ≤ 21 then ⟨true, -1, false, true, false, false, false⟩
  else if o = 22 then ⟨true, 3, false, false, true, false, false⟩
  else if o = 23 then ⟨true, -1, false, false, true, false, false⟩
  else if o ≤ 29 then ⟨true, -1, false, false, false, true, false⟩
  else if o = 30 then ⟨true, -1, false, false, false, false, true⟩
  else ⟨false, 0, false, false, false, false, false⟩
def shpC (s : Shp) : Array Value := #[.bool s.known, .int .i64 s.place, .bool s.from', .bool s.operand, .bool s.number, .bool s.jump, .bool s.long]
/-- Is a number one of 0 to most? -/
def inI (n most : Int) (named : Bool) : Bool := decide (0 ≤ n) && decide (n ≤ if named then most else 0)
def rightX (x : Shp) (d s n : Int) : Bool :=
  let far := x.jump || x.long
  x.known && inI d x.place (decide (0 ≤ x.place)) && inI s (if x.operand then 7 else 6) (x.from' || x.operand) &&
    inI n (if far then 65535 else 255) (far || x.number || (x.operand && decide (s = 7)))
def rightI (o : Nat) (d s n : Int) : Bool := rightX (shp o) d s n
theorem in_any (w : World) (n most : Int) (named : Bool) : Calls Try.prog 83 #[.int .i64 n, .int .i64 most, .bool named] w fun e w' => e = .returned (.bool (inI n most named)) ∧ w = w' := by
  unfold inI
  cases named with
  | true =>
    by_cases h0 : 0 ≤ n
    · by_cases h1 : n ≤ most
      · go_enter Try.func83, Try.ntmps83
        go_wp2_with fail
        go_ret
        simp [h0, h1]
      · go_enter Try.func83, Try.ntmps83
        go_wp2_with fail
        go_ret
        simp [h0, h1]
    · go_enter Try.func83, Try.ntmps83
      go_wp2_with fail
      go_ret
      exact ⟨by rw [decide_eq_false (show ¬ 0 ≤ n by omega)]; rfl, rfl⟩
  | false =>
    by_cases h0 : 0 ≤ n
    · by_cases h1 : n ≤ 0
      · go_enter Try.func83, Try.ntmps83
        go_wp2_with fail
        go_ret
        simp [h0, h1]
      · go_enter Try.func83, Try.ntmps83
        go_wp2_with fail
        go_ret
        simp [h0, h1]
    · go_enter Try.func83, Try.ntmps83
      go_wp2_with fail
      go_ret
      exact ⟨by rw [decide_eq_false (show ¬ 0 ≤ n by omega)]; rfl, rfl⟩
theorem shp_size : (Try.prog.info? 132).map (·.size) = some 7 := by kernel_rfl
theorem shp_results {fn : Func} {p : Tmp} (h : fn.results = #[.cell p 132]) (tmps : Array Value) (w : World) (cs : Array Value) (hp : tmps.getD p undef = .pointer (some ⟨w.heap.size, 0, none⟩)) (hs : cs.size = 7) :
    (results fn tmps).run Try.prog (w.alloc (.cells cs 132)) = .ok (.agg cs) (w.alloc (.cells cs 132)) :=
  results_cell_row h tmps _ _ _ cs (0, 0) _ hp (heap_alloc_new w _) Try.underlying132 rfl (by rw [hs]; exact shp_size)
set_option maxHeartbeats 8000000 in
theorem shape_any (o : Nat) (ho : o < 256) (w : World) : Calls Try.prog 60 #[.int .u8 o] w fun e w' => e = .returned (.agg (shpC (shp o))) ∧ Below w.heap.size w w' := by
  by_cases h30 : o ≤ 30
  · have hc : o = 0 ∨ o = 1 ∨ o = 2 ∨ o = 3 ∨ o = 4 ∨ o = 5 ∨ o = 6 ∨ o = 7 ∨ o = 8 ∨ o = 9 ∨ o = 10 ∨ o = 11 ∨ o = 12 ∨ o = 13 ∨ o = 14 ∨ o = 15 ∨ o = 16 ∨ o = 17 ∨ o = 18 ∨ o = 19 ∨ o = 20 ∨ o = 21 ∨ o = 22 ∨ o = 23 ∨ o = 24 ∨ o = 25 ∨ o = 26 ∨ o = 27 ∨ o = 28 ∨ o = 29 ∨ o = 30 := by omega
    clear ho h30
    rcases hc with rfl | rfl | rfl | rfl | rfl | rfl | rfl | rfl | rfl | rfl | rfl | rfl | rfl | rfl | rfl | rfl | rfl | rfl | rfl | rfl | rfl | rfl | rfl | rfl | rfl | rfl | rfl | rfl | rfl | rfl | rfl
    all_goals
      go_enter Try.func60, Try.ntmps60
      go_wp2_with fail
      (try simp only [Exit.inBlock, Exit.then])
      refine bodyPost_ret (shp_results rfl _ w _ rfl rfl) rfl ?_
      exact ⟨rfl, (Below.refl _ _).alloc (Nat.le_refl _) _⟩
  · have ho' : (30 : Int) < o := by omega
    have e0 : ((o : Int) == 0) = false := by rw [beq_eq_false_iff_ne]; omega
    have e1 : ((o : Int) == 1) = false := by rw [beq_eq_false_iff_ne]; omega
    have e2 : ((o : Int) == 2) = false := by rw [beq_eq_false_iff_ne]; omega
    have e22 : ((o : Int) == 22) = false := by rw [beq_eq_false_iff_ne]; omega
    have e23 : ((o : Int) == 23) = false := by rw [beq_eq_false_iff_ne]; omega
    have e30 : ((o : Int) == 30) = false := by rw [beq_eq_false_iff_ne]; omega
    have g24 : (24 : Int) ≤ o := by omega
    have l26 : ¬ (o : Int) ≤ 26 := by omega
    have l7 : ¬ (o : Int) ≤ 7 := by omega
    have l21 : ¬ (o : Int) ≤ 21 := by omega
    have l29 : ¬ (o : Int) ≤ 29 := by omega
    have hq : shp o = ⟨false, 0, false, false, false, false, false⟩ := by
      unfold shp
      rw [if_neg (by omega), if_neg (by omega), if_neg (by omega), if_neg (by omega), if_neg (by omega), if_neg (by omega), if_neg (by omega), if_neg (by omega), if_neg (by omega)]
    rw [hq]
    clear hq ho h30
    go_enter Try.func60, Try.ntmps60
    go_wp2_with fail
    (try simp only [Exit.inBlock, Exit.then])
    refine bodyPost_ret (shp_results rfl _ w _ rfl rfl) rfl ?_
    exact ⟨rfl, (Below.refl _ _).alloc (Nat.le_refl _) _⟩
def shapes : List Shp := [⟨true, -1, false, false, false, false, false⟩, ⟨true, 6, true, false, false, false, false⟩, ⟨true, 6, false, false, true, false, false⟩, ⟨true, 6, false, false, false, false, false⟩, ⟨true, -1, false, true, false, false, false⟩, ⟨true, 3, false, false, true, false, false⟩, ⟨true, -1, false, false, true, false, false⟩, ⟨true, -1, false, false, false, true, false⟩, ⟨true, -1, false, false, false, false, true⟩, ⟨false, 0, false, false, false, false, false⟩]
theorem shp_mem (o : Nat) : shp o ∈ shapes := by
  unfold shp
  split
  · decide
  split
  · decide
  split
  · decide
  split
  · decide
  split
  · decide
  split
  · decide
  split
  · decide
  split
  · decide
  split
  · decide
  · decide
end Go.Proofs.Ythmpagehmfillaa
