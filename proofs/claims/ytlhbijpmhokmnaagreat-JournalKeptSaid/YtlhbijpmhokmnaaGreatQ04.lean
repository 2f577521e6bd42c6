/-
  THE WALK OF digest.New: its numbers are the roots of the primes. Conditions: none.
-/
import Derived.Test.YtlhbijpmhokmnaaGreatQ03
import Derived.Deep.RegionHeld3
namespace Go.Proofs.YtlhbijpmhokmnaaGreat
open Go.RowKit
set_option linter.unusedSimpArgs false
set_option linter.unusedVariables false

/-- The fields of a digest. -/
def dgC (h k : Nat → Nat) (rest : Value) (n : Nat) (i : Nat) : Value :=
  if i = 0 then .bool true else if i < 9 then .int .u32 (h (i - 1) : Nat) else if i < 73 then .int .u32 (k (i - 9) : Nat) else if i = 73 then rest else .int .i64 n
section
variable {w : World} {g : Nat} {h k a z : Nat → Nat} {r : Value} {n c : Nat}
theorem dgC_k (hc : c < 64) : dgC h k r n (9 + c) = .int .u32 (k c : Nat) := by
  unfold dgC
  rw [if_neg (by omega), if_neg (by omega), if_pos (by omega), show 9 + c - 9 = c by omega]
theorem dgC_h (hc : c < 8) : dgC h k r n (1 + c) = .int .u32 (h c : Nat) := by
  unfold dgC
  rw [if_neg (by omega), if_pos (by omega), show 1 + c - 1 = c by omega]
theorem dgk_set (hr : w.rowIs g 142 75 (dgC h (upd c a z) r n)) (hc : c < 64) : (w.setCell ⟨g, 9 + c, none⟩ (.int .u32 (a c : Nat))).rowIs g 142 75 (dgC h (upd (c + 1) a z) r n) := by
  refine (hr.set (9 + c) _).congr fun i hi => ?_
  by_cases e : i = 9 + c
  · rw [if_pos e, e, dgC_k hc, upd_lt _ _ (by omega)]
  · rw [if_neg e]
    unfold dgC
    by_cases j0 : i = 0
    · simp [j0]
    · by_cases j1 : i < 9
      · simp [j0, j1]
      · by_cases j2 : i < 73
        · simp only [j0, j1, j2, if_true, if_false]
          by_cases q : i - 9 < c
          · rw [upd_lt _ _ q, upd_lt _ _ (by omega)]
          · rw [upd_ge _ _ (by omega), upd_ge _ _ (by omega)]
        · simp [j0, j1, j2]
theorem dgh_set (hr : w.rowIs g 142 75 (dgC (upd c a z) k r n)) (hc : c < 8) : (w.setCell ⟨g, 1 + c, none⟩ (.int .u32 (a c : Nat))).rowIs g 142 75 (dgC (upd (c + 1) a z) k r n) := by
  refine (hr.set (1 + c) _).congr fun i hi => ?_
  by_cases e : i = 1 + c
  · rw [if_pos e, e, dgC_h hc, upd_lt _ _ (by omega)]
  · rw [if_neg e]
    unfold dgC
    by_cases j0 : i = 0
    · simp [j0]
    · by_cases j1 : i < 9
      · simp only [j0, j1, if_true, if_false]
        by_cases q : i - 1 < c
        · rw [upd_lt _ _ q, upd_lt _ _ (by omega)]
        · rw [upd_ge _ _ (by omega), upd_ge _ _ (by omega)]
      · simp [j0, j1]
theorem dgh_past (hr : w.rowIs g 142 75 (dgC (upd c a z) k r n)) (hc : 8 ≤ c) : w.rowIs g 142 75 (dgC (upd (c + 1) a z) k r n) := by
  refine hr.congr fun i hi => ?_
  unfold dgC
  by_cases j0 : i = 0
  · simp [j0]
  · by_cases j1 : i < 9
    · simp only [j0, j1, if_true, if_false]
      rw [upd_lt _ _ (by omega), upd_lt _ _ (by omega)]
    · simp [j0, j1]
end
/-- The zero value's cells, for seats whose program's text names none. -/
def myZero142 : Array Value := ((List.range 75).map fun i => if i = 0 then Value.bool false else if i < 73 then .int .u32 0 else if i = 73 then .slice none 0 0 else .int .i64 0).toArray
theorem myZero142_run (w : World) : (zeroValue 142).run Tryz.prog w = .ok (.agg myZero142) w := by kernel_rfl
theorem myZero142_ne : ¬ myZero142 = #[] := by
  intro h
  have : myZero142.size = 75 := by simp [myZero142]
  rw [h] at this
  cases this
set_option maxHeartbeats 2000000 in
theorem dnew_any (w : World) : Calls Tryz.prog 107 #[] w fun e w' => e = .returned (.pointer (some ⟨w.heap.size, 0, none⟩)) ∧ w'.rowIs w.heap.size 142 75 (dgC (nth hL) (nth kL) (.slice none 0 0) 0) ∧ Below w.heap.size w w' := by
  go_enter Tryz.func107, Tryz.ntmps107
  go_wp2_with fail
  have hz : (w.alloc (.cells (Tryz.zeroCells142.setIfInBounds 0 (.bool true)) 142)).rowIs w.heap.size 142 75 (dgC (fun _ => 0) (fun _ => 0) (.slice none 0 0) 0) := by
    refine ⟨_, heap_alloc_new w _, by kernel_rfl, ?_⟩
    have e : Tryz.zeroCells142.setIfInBounds 0 (.bool true) = ((List.range 75).map (dgC (fun _ => 0) (fun _ => 0) (.slice none 0 0) 0)).toArray := by kernel_rfl
    intro i hi
    rw [e]
    simp [hi]
  have hb : Below w.heap.size w (w.alloc (.cells (Tryz.zeroCells142.setIfInBounds 0 (.bool true)) 142)) := (Below.refl _ _).alloc (Nat.le_refl _) _
  generalize w.alloc (.cells (Tryz.zeroCells142.setIfInBounds 0 (.bool true)) 142) = W at *
  have HZ := Lib.hid hz
  have HB := Lib.hid hb
  clear hz hb
  go_loopw [2, 3] (fun x y wr => ∃ p : Nat, 2 ≤ p ∧ p ≤ 312 ∧ x = .int .i64 (cnt p) ∧ y = .int .i64 p ∧ wr.rowIs w.heap.size 142 75 (dgC (upd (cnt p) (nth hL) fun _ => 0) (upd (cnt p) (nth kL) fun _ => 0) (.slice none 0 0) 0) ∧ Below w.heap.size w wr) (fun _ y _ => 312 - (intOf y).toNat)
  case atStart => exact ⟨2, by omega, by omega, by rw [cnt_two]; rfl, rfl, by rw [cnt_two]; exact HZ.out, HB.out⟩
  case round =>
    obtain ⟨p, h1, h2, rfl, rfl, hr, hb⟩ := hrel
    have HR := Lib.hid hr
    have HB := Lib.hid hb
    clear hr hb
    by_cases e0 : p = 312
    · subst e0
      have HR2 := HR.out
      rw [cnt_end] at HR2 ⊢
      have HR3 := Lib.hid HR2
      clear HR HR2
      go_wp2
      go_ret
      refine ⟨rfl, HR3.out.congr (fun j hj => ?_), HB.out⟩
      unfold dgC
      by_cases j0 : j = 0
      · simp [j0]
      · by_cases j1 : j < 9
        · rw [if_neg j0, if_neg j0, if_pos j1, if_pos j1, upd_lt _ _ (by omega)]
        · by_cases j2 : j < 73
          · rw [if_neg j0, if_neg j0, if_neg j1, if_neg j1, if_pos j2, if_pos j2, upd_lt _ _ (by omega)]
          · rw [if_neg j0, if_neg j0, if_neg j1, if_neg j1, if_neg j2, if_neg j2]
    · have hp : p < 312 := by omega
      obtain ⟨hc, hs⟩ := cnt_step p hp h1
      have ku : IntKind.u64.wrap (p : Int) = p := by rw [IntKind.wrap_u64]; omega
      cases hpr : primeB p
      · rw [hpr] at hs
        have hs' : cnt (p + 1) = cnt p := by simpa using hs
        have HPR := Lib.hid hpr
        have HS := Lib.hid hs'
        clear hs hpr hs' e0
        go_wp2_with fail
        refine (prime_any p (by omega) wr).mono ?_
        rintro e w' ⟨rfl, rfl⟩
        rw [HPR.out]
        go_wp2
        go_roundw
        case rel => exact ⟨p + 1, by omega, by omega, by rw [HS.out], by go_num, by rw [HS.out]; exact HR.out, HB.out⟩
        case measure => simp [intOf]; omega
      · have hk := root_k p hp h1 hpr
        have hh := root_h p hp h1 hpr
        rw [hpr] at hs
        have hs' : cnt (p + 1) = cnt p + 1 := by simpa using hs
        have HPR := Lib.hid hpr
        have HS := Lib.hid hs'
        have HK := Lib.hid hk
        have HH := Lib.hid hh
        clear hs hpr hs' e0 hk hh
        generalize hcc : cnt p = c at *
        have HC := Lib.hid hcc
        clear hcc
        have x1 := HR.out.cell (i := 9 + c) (by omega)
        have x2 := HR.out.frozen (9 + c)
        go_wp2_with fail
        refine (prime_any p (by omega) wr).mono ?_
        rintro e w' ⟨rfl, rfl⟩
        rw [HPR.out]
        go_wp2_with fail
        go_region_held3 (fun _ => True) (exact trivial) (first
          | (go_at_call 115; (with_reducible refine (root_any p (by omega) true _).mono ?_); rintro e w' ⟨rfl, rfl⟩))
        all_goals
          rw [HK.out]
          have hr2 := (dgk_set HR.out hc).drew
          have hb2 := (HB.out.setCell (p := ⟨w.heap.size, 9 + c, none⟩) (Nat.le_refl _) (.int .u32 (nth kL c : Nat))).drew
          generalize (wr.setCell ⟨w.heap.size, 9 + c, none⟩ (.int .u32 (nth kL c : Nat))).drew = X at *
          clear x1 x2
          by_cases c8 : c < 8
          · have x1 := hr2.cell (i := 1 + c) (by omega)
            have x2 := hr2.frozen (1 + c)
            have HR2 := Lib.hid hr2
            have HB2 := Lib.hid hb2
            have H8 := Lib.hid (HH.out c8)
            clear hr2 hb2
            go_wp2_with fail
            go_region_held3 (fun _ => True) (exact trivial) (first
              | (go_at_call 115; (with_reducible refine (root_any p (by omega) false _).mono ?_); rintro e w' ⟨rfl, rfl⟩))
            all_goals
              rw [H8.out]
              have hr3 := (dgh_set HR2.out c8).drew
              have hb3 := (HB2.out.setCell (p := ⟨w.heap.size, 1 + c, none⟩) (Nat.le_refl _) (.int .u32 (nth hL c : Nat))).drew
              generalize (X.setCell ⟨w.heap.size, 1 + c, none⟩ (.int .u32 (nth hL c : Nat))).drew = Y at *
              have HR3 := Lib.hid hr3
              have HB3 := Lib.hid hb3
              clear hr3 hb3 x1 x2
              go_wp2
              go_roundw
              case rel => exact ⟨p + 1, by omega, by omega, by rw [HS.out]; go_num, by go_num, by rw [HS.out]; exact HR3.out, HB3.out⟩
              case measure => simp [intOf]; omega
          · have HR2 := Lib.hid hr2
            have HB2 := Lib.hid hb2
            clear hr2 hb2
            go_wp2
            go_roundw
            case rel => exact ⟨p + 1, by omega, by omega, by rw [HS.out]; go_num, by go_num, by rw [HS.out]; exact dgh_past HR2.out (by omega), HB2.out⟩
            case measure => simp [intOf]; omega
end Go.Proofs.YtlhbijpmhokmnaaGreat
