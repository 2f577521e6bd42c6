/-
  WHAT PARTS MAY BE, plain; the walks of rowOf and of right's closure. Conditions: a kind is a byte.
-/
import Derived.Test.YtiadfmhodlbkiaaSamC
import Derived.WalkKit
import Derived.ProofKit
namespace Go.Proofs.Ytiadfmhodlbkiaa
open Go.RowKit
set_option linter.unusedSimpArgs false
set_option linter.unusedVariables false
/-- What a kind's fields may be. -/
structure RowP where
  known : Bool
  least : Int
  most : Int
  a : Bool
  b : Bool
  low : Int
  high : Int
  rate : Bool
  limit : Bool
  deriving DecidableEq
def rowP (k : Nat) : RowP :=
  if k = 1 then ⟨true, 0, -1, false, false, -2047, 2047, false, false⟩
  else if k = 2 then ⟨true, 0, 16, false, false, 0, 0, false, true⟩
  else if k = 3 then ⟨true, 0, 16, false, false, 0, 0, false, false⟩
  else if k = 4 then ⟨true, 4, 16, false, false, 0, 0, false, false⟩
  else if k = 5 then ⟨true, 0, -1, true, true, 0, 256, false, false⟩
  else if k = 6 then ⟨true, 0, 16, true, true, 0, 0, true, false⟩
  else if k = 7 then ⟨true, 0, 12, true, true, 0, 0, true, false⟩
  else if k = 8 then ⟨true, 0, 16, true, false, 0, 0, false, false⟩
  else if k = 9 then ⟨true, 0, 10, true, false, 0, 0, false, true⟩
  else ⟨false, 0, 0, false, false, 0, 0, false, false⟩
def rowC (r : RowP) : Array Value := #[.int .i64 r.least, .int .i64 r.most, .bool r.a, .bool r.b, .int .i64 r.low, .int .i64 r.high, .bool r.rate, .bool r.limit]
def inP (n low high : Int) (named : Bool) : Bool := if named then decide (low ≤ n) && decide (n ≤ high) else decide (0 ≤ n) && decide (n ≤ 0)
theorem inP_any (n low high : Int) (named : Bool) (w : World) : Calls Try.prog 81 #[.int .i64 n, .int .i64 low, .int .i64 high, .bool named] w fun e w' => e = .returned (.bool (inP n low high named)) ∧ w' = w := by
  unfold inP
  cases named with
  | true =>
    rw [if_pos rfl]
    by_cases h0 : low ≤ n
    · rw [decide_eq_true h0]
      by_cases h1 : n ≤ high
      · rw [decide_eq_true h1]
        go_enter Try.func81, Try.ntmps81
        go_wp2_with fail
        go_ret
        exact ⟨rfl, rfl⟩
      · rw [decide_eq_false h1]
        go_enter Try.func81, Try.ntmps81
        go_wp2_with fail
        go_ret
        refine ⟨?_, rfl⟩
        first
          | rfl
          | (show Ending.returned (.bool (decide (n ≤ high))) = _; rw [decide_eq_false (by omega)]; rfl)
    · rw [decide_eq_false h0]
      go_enter Try.func81, Try.ntmps81
      go_wp2_with fail
      go_ret
      exact ⟨rfl, rfl⟩
  | false =>
    rw [if_neg (by decide)]
    by_cases h0 : 0 ≤ n
    · rw [decide_eq_true h0]
      by_cases h1 : n ≤ 0
      · rw [decide_eq_true h1]
        go_enter Try.func81, Try.ntmps81
        go_wp2_with fail
        go_ret
        exact ⟨rfl, rfl⟩
      · rw [decide_eq_false h1]
        go_enter Try.func81, Try.ntmps81
        go_wp2_with fail
        go_ret
        refine ⟨?_, rfl⟩
        first
          | rfl
          | (show Ending.returned (.bool (decide (n ≤ 0))) = _; rw [decide_eq_false (by omega)]; rfl)
    · rw [decide_eq_false h0]
      go_enter Try.func81, Try.ntmps81
      go_wp2_with fail
      go_ret
      exact ⟨rfl, rfl⟩
theorem rowP_size : (Try.prog.info? 116).map (·.size) = some 8 := by kernel_rfl
theorem rowP_results {fn : Func} {p q : Tmp} (h : fn.results = #[.cell p 116, .tmp q]) (tmps : Array Value) (w : World) (cs : Array Value) (v : Value) (hp : tmps.getD p undef = .pointer (some ⟨w.heap.size, 0, none⟩)) (hq : tmps.getD q undef = v) (hs : cs.size = 8) :
    (results fn tmps).run Try.prog (w.alloc (.cells cs 116)) = .ok (.tuple #[.agg cs, v]) (w.alloc (.cells cs 116)) := by
  have hp' : tmps[p]?.getD undef = .pointer (some ⟨w.heap.size, 0, none⟩) := by simpa using hp
  have hq' : tmps[q]?.getD undef = v := by simpa using hq
  simp [results, h, hp', hq', asAddr, run_loadVar_row (w.alloc (.cells cs 116)) w.heap.size 116 116 _ _ _ (heap_alloc_new w _) Try.underlying116 rfl (by rw [hs]; exact rowP_size)]
set_option maxRecDepth 100000 in
set_option maxHeartbeats 8000000 in
theorem rowP_any (k : Nat) (w : World) : Calls Try.prog 80 #[.int .u8 k] w fun e w' => e = .returned (.tuple #[.agg (rowC (rowP k)), .bool (rowP k).known]) ∧ Below w.heap.size w w' := by
  by_cases h9 : 1 ≤ k ∧ k ≤ 9
  · have hc : k = 1 ∨ k = 2 ∨ k = 3 ∨ k = 4 ∨ k = 5 ∨ k = 6 ∨ k = 7 ∨ k = 8 ∨ k = 9 := by omega
    clear h9
    rcases hc with rfl | rfl | rfl | rfl | rfl | rfl | rfl | rfl | rfl
    all_goals
      go_enter Try.func80, Try.ntmps80
      go_wp2_with fail
      (try simp only [Exit.inBlock, Exit.then])
      refine bodyPost_ret (rowP_results rfl _ w _ _ rfl rfl rfl) rfl ?_
      exact ⟨rfl, (Below.refl _ _).alloc (Nat.le_refl _) _⟩
  · have e1 : ((k : Int) == 1) = false := by rw [beq_eq_false_iff_ne]; omega
    have e2 : ((k : Int) == 2) = false := by rw [beq_eq_false_iff_ne]; omega
    have e3 : ((k : Int) == 3) = false := by rw [beq_eq_false_iff_ne]; omega
    have e4 : ((k : Int) == 4) = false := by rw [beq_eq_false_iff_ne]; omega
    have e5 : ((k : Int) == 5) = false := by rw [beq_eq_false_iff_ne]; omega
    have e6 : ((k : Int) == 6) = false := by rw [beq_eq_false_iff_ne]; omega
    have e7 : ((k : Int) == 7) = false := by rw [beq_eq_false_iff_ne]; omega
    have e8 : ((k : Int) == 8) = false := by rw [beq_eq_false_iff_ne]; omega
    have e9 : ((k : Int) == 9) = false := by rw [beq_eq_false_iff_ne]; omega
    have hq : rowP k = ⟨false, 0, 0, false, false, 0, 0, false, false⟩ := by
      unfold rowP
      rw [if_neg (by omega), if_neg (by omega), if_neg (by omega), if_neg (by omega), if_neg (by omega), if_neg (by omega), if_neg (by omega), if_neg (by omega), if_neg (by omega)]
    rw [hq]
    clear hq h9
    go_enter Try.func80, Try.ntmps80
    go_wp2_with fail
    (try simp only [Exit.inBlock, Exit.then])
    refine bodyPost_ret (rowP_results rfl _ w _ _ rfl rfl rfl) rfl ?_
    exact ⟨rfl, (Below.refl _ _).alloc (Nat.le_refl _) _⟩
/-- How many places a part's tables have. -/
def placesP (p : PartS) : Int :=
  if (rowP p.k).known = false ∨ p.size < (rowP p.k).least ∨ (rowP p.k).most < p.size then 0
  else
    let n : Int := 2 ^ p.size.toNat
    if p.k = 3 then n + 256
    else if p.k = 4 then 2 * n
    else if p.k = 7 then (if p.b < 1 ∨ 8 < p.b then 0 else n * p.b)
    else if p.k = 8 then n + 512
    else if p.k = 9 then n * 32
    else n
def memP : List PartS → Int
  | [] => 0
  | p :: l => placesP p + memP l
def pZ : PartS := ⟨0, 0, 0, 0, 0, 0, 0⟩
/-- May a part stand at a place? -/
def partOk (p : PartS) (i : Nat) : Bool :=
  let r := rowP p.k
  r.known && inP p.size r.least r.most (decide (0 ≤ r.most)) && inP p.c r.low r.high (decide (0 < r.high)) && inP p.rate 1 64 r.rate && inP p.limit 1 1023 r.limit && inP p.a 0 (i - 1) r.a &&
    (if p.k = 7 then inP p.b 1 (min 8 (i - p.a)) true else inP p.b 0 (i - 1) r.b && !decide (p = pZ))
def allP : Nat → List PartS → Bool
  | _, [] => true
  | i, p :: l => partOk p i && allP (i + 1) l
def rightPs (l : List PartS) : Int := if l.length = 0 ∨ 16 < l.length then 100 else if allP 0 l then (if 1048576 < memP l then 101 else 0) else 100
theorem pow_16 : ∀ t < 17, (1 : Int) ≤ 2 ^ t ∧ (2 : Int) ^ t ≤ 65536 := by decide
theorem rowP_16 (k : Nat) : (rowP k).most ≤ 16 ∧ 0 ≤ (rowP k).least := by
  unfold rowP
  repeat' split
  all_goals exact ⟨by decide, by decide⟩
theorem places_le (p : PartS) : 0 ≤ placesP p ∧ placesP p ≤ 4194304 := by
  unfold placesP
  split
  · omega
  · rename_i h
    have hk := rowP_16 p.k
    have h1 : p.size.toNat < 17 := by omega
    obtain ⟨h2, h3⟩ := pow_16 _ h1
    generalize (2 : Int) ^ p.size.toNat = n at *
    simp only []
    split
    · omega
    split
    · omega
    split
    · split
      · omega
      · have hb : p.b = 1 ∨ p.b = 2 ∨ p.b = 3 ∨ p.b = 4 ∨ p.b = 5 ∨ p.b = 6 ∨ p.b = 7 ∨ p.b = 8 := by omega
        rcases hb with hb | hb | hb | hb | hb | hb | hb | hb <;> rw [hb] <;> omega
    split
    · omega
    split
    · omega
    · omega
theorem memP_le : ∀ (l : List PartS), 0 ≤ memP l ∧ memP l ≤ l.length * 4194304
  | [] => by simp [memP]
  | p :: l => by
    have h1 := places_le p
    have h2 := memP_le l
    simp only [memP, List.length_cons]
    push_cast
    omega
end Go.Proofs.Ytiadfmhodlbkiaa
