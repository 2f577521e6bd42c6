/-
  THE WALK OF code.Right: may an instruction be? Conditions: none.
-/
import Derived.Test.YtiadfmhodlbkiaaProg
import Derived.Test.YtiadfmhodlbkiaaMem
import Derived.WalkKit
import Derived.ProofKit
namespace Go.Proofs.Ytiadfmhodlbkiaa
open Go.RowKit
set_option linter.unusedSimpArgs false
set_option linter.unusedVariables false
/-- What an instruction may have. -/
structure Shp where
  known : Bool
  place : Int
  from' : Bool
  operand : Bool
  number : Bool
  jump : Bool
  long : Bool
  deriving DecidableEq
def shp (o : Nat) : Shp :=
  if o = 0 ∨ (24 ≤ o ∧ o ≤ 26) then ⟨true, -1, false, false, false, false, false⟩
  else if o = 1 then ⟨true, 6, true, false, false, false, false⟩
  else if o = 2 then ⟨true, 6, false, false, true, false, false⟩
  else if o ≤ 7 then ⟨true, 6, false, false, false, false, false⟩
  else if o ≤ 21 then ⟨true, -1, false, true, false, false, false⟩
  else if o = 22 then ⟨true, 3, false, false, true, false, false⟩
  else if o = 23 then ⟨true, -1, false, false, true, false, false⟩
  else if o ≤ 29 then ⟨true, -1, false, false, false, true, false⟩
  else if o = 30 then ⟨true, -1, false, false, false, false, true⟩
  else ⟨false, 0, false, false, false, false, false⟩
def shpC (s : Shp) : Array Value := #[.bool s.known, .int .i64 s.place, .bool s.from', .bool s.operand, .bool s.number, .bool s.jump, .bool s.long]
/-- Is a number one of 0 to most? -/
def inI (n most : Int) (named : Bool) : Bool := decide (0 ≤ n) && decide (n ≤ if named then most else 0)
def rightX (x : Shp) (d s n : Int) : Bool :=
  let far := x.jump || x.long
  x.known && inI d x.place (decide (0 ≤ x.place)) && inI s (if x.operand then 7 else 6) (x.from' || x.operand) &&
    inI n (if far then 65535 else 255) (far || x.number || (x.operand && decide (s = 7)))
def rightI (o : Nat) (d s n : Int) : Bool := rightX (shp o) d s n
theorem in_any (w : World) (n most : Int) (named : Bool) : Calls Try.prog 96 #[.int .i64 n, .int .i64 most, .bool named] w fun e w' => e = .returned (.bool (inI n most named)) ∧ w = w' := by
  unfold inI
  cases named with
  | true =>
    by_cases h0 : 0 ≤ n
    · by_cases h1 : n ≤ most
      · go_enter Try.func96, Try.ntmps96
        go_wp2_with fail
        go_ret
        simp [h0, h1]
      · go_enter Try.func96, Try.ntmps96
        go_wp2_with fail
        go_ret
        simp [h0, h1]
    · go_enter Try.func96, Try.ntmps96
      go_wp2_with fail
      go_ret
      exact ⟨by rw [decide_eq_false (show ¬ 0 ≤ n by omega)]; rfl, rfl⟩
  | false =>
    by_cases h0 : 0 ≤ n
    · by_cases h1 : n ≤ 0
      · go_enter Try.func96, Try.ntmps96
        go_wp2_with fail
        go_ret
        simp [h0, h1]
      · go_enter Try.func96, Try.ntmps96
        go_wp2_with fail
        go_ret
        simp [h0, h1]
    · go_enter Try.func96, Try.ntmps96
      go_wp2_with fail
      go_ret
      exact ⟨by rw [decide_eq_false (show ¬ 0 ≤ n by omega)]; rfl, rfl⟩
theorem shp_size : (Try.prog.info? 131).map (·.size) = some 7 := by kernel_rfl
theorem shp_results {fn : Func} {p : Tmp} (h : fn.results = #[.cell p 131]) (tmps : Array Value) (w : World) (cs : Array Value) (hp : tmps.getD p undef = .pointer (some ⟨w.heap.size, 0, none⟩)) (hs : cs.size = 7) :
    (results fn tmps).run Try.prog (w.alloc (.cells cs 131)) = .ok (.agg cs) (w.alloc (.cells cs 131)) :=
  results_cell_row h tmps _ _ _ cs (0, 0) _ hp (heap_alloc_new w _) Try.underlying131 rfl (by rw [hs]; exact shp_size)
set_option maxHeartbeats 8000000 in
theorem shape_any (o : Nat) (ho : o < 256) (w : World) : Calls Try.prog 95 #[.int .u8 o] w fun e w' => e = .returned (.agg (shpC (shp o))) ∧ Below w.heap.size w w' := by
  by_cases h30 : o ≤ 30
  · have hc : o = 0 ∨ o = 1 ∨ o = 2 ∨ o = 3 ∨ o = 4 ∨ o = 5 ∨ o = 6 ∨ o = 7 ∨ o = 8 ∨ o = 9 ∨ o = 10 ∨ o = 11 ∨ o = 12 ∨ o = 13 ∨ o = 14 ∨ o = 15 ∨ o = 16 ∨ o = 17 ∨ o = 18 ∨ o = 19 ∨ o = 20 ∨ o = 21 ∨ o = 22 ∨ o = 23 ∨ o = 24 ∨ o = 25 ∨ o = 26 ∨ o = 27 ∨ o = 28 ∨ o = 29 ∨ o = 30 := by omega
    clear ho h30
    rcases hc with rfl | rfl | rfl | rfl | rfl | rfl | rfl | rfl | rfl | rfl | rfl | rfl | rfl | rfl | rfl | rfl | rfl | rfl | rfl | rfl | rfl | rfl | rfl | rfl | rfl | rfl | rfl | rfl | rfl | rfl | rfl
    all_goals
      go_enter Try.func95, Try.ntmps95
      go_wp2_with fail
      (try simp only [Exit.inBlock, Exit.then])
      refine bodyPost_ret (shp_results rfl _ w _ rfl rfl) rfl ?_
      exact ⟨rfl, (Below.refl _ _).alloc (Nat.le_refl _) _⟩
  · have ho' : (30 : Int) < o := by omega
    have e0 : ((o : Int) == 0) = false := by rw [beq_eq_false_iff_ne]; omega
    have e1 : ((o : Int) == 1) = false := by rw [beq_eq_false_iff_ne]; omega
    have e2 : ((o : Int) == 2) = false := by rw [beq_eq_false_iff_ne]; omega
    have e22 : ((o : Int) == 22) = false := by rw [beq_eq_false_iff_ne]; omega
    have e23 : ((o : Int) == 23) = false := by rw [beq_eq_false_iff_ne]; omega
    have e30 : ((o : Int) == 30) = false := by rw [beq_eq_false_iff_ne]; omega
    have g24 : (24 : Int) ≤ o := by omega
    have l26 : ¬ (o : Int) ≤ 26 := by omega
    have l7 : ¬ (o : Int) ≤ 7 := by omega
    have l21 : ¬ (o : Int) ≤ 21 := by omega
    have l29 : ¬ (o : Int) ≤ 29 := by omega
    have hq : shp o = ⟨false, 0, false, false, false, false, false⟩ := by
      unfold shp
      rw [if_neg (by omega), if_neg (by omega), if_neg (by omega), if_neg (by omega), if_neg (by omega), if_neg (by omega), if_neg (by omega), if_neg (by omega), if_neg (by omega)]
    rw [hq]
    clear hq ho h30
    go_enter Try.func95, Try.ntmps95
    go_wp2_with fail
    (try simp only [Exit.inBlock, Exit.then])
    refine bodyPost_ret (shp_results rfl _ w _ rfl rfl) rfl ?_
    exact ⟨rfl, (Below.refl _ _).alloc (Nat.le_refl _) _⟩
def shapes : List Shp := [⟨true, -1, false, false, false, false, false⟩, ⟨true, 6, true, false, false, false, false⟩, ⟨true, 6, false, false, true, false, false⟩, ⟨true, 6, false, false, false, false, false⟩, ⟨true, -1, false, true, false, false, false⟩, ⟨true, 3, false, false, true, false, false⟩, ⟨true, -1, false, false, true, false, false⟩, ⟨true, -1, false, false, false, true, false⟩, ⟨true, -1, false, false, false, false, true⟩, ⟨false, 0, false, false, false, false, false⟩]
theorem shp_mem (o : Nat) : shp o ∈ shapes := by
  unfold shp
  split
  · decide
  split
  · decide
  split
  · decide
  split
  · decide
  split
  · decide
  split
  · decide
  split
  · decide
  split
  · decide
  split
  · decide
  · decide
end Go.Proofs.Ytiadfmhodlbkiaa
