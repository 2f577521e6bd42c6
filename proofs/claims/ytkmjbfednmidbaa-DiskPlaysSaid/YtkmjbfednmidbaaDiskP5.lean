/-
  THE WALKS OF quillpressref07's Arm, Fail, Load. Conditions: the document's disk is a value whose lists read.
-/
import Derived.Test.YtkmjbfednmidbaaDiskP4
namespace Go.Proofs.Ytkmjbfednmidbaa
open Go.RowKit
set_option linter.unusedSimpArgs false
set_option linter.unusedVariables false

theorem two_below (w : World) (cs ds : Array Value) (t u : TypeId) : Below w.heap.size w ((w.alloc (.cells cs t)).alloc (.cells ds u)) := ((Below.refl _ _).alloc (Nat.le_refl _) _).alloc (by rw [World.size_alloc]; omega) _
set_option maxRecDepth 100000 in
set_option maxHeartbeats 4000000 in
theorem rarm_no (v : Value) (r : RfS) (n : Int) (w : World) (h : RfV w v r) (hn : n < 0) : Calls Try.prog 40 #[v, .int .i64 n] w fun e w' => ∃ v', e = .returned (.tuple #[v', .int .i64 2]) ∧ RfV w' v' r ∧ Below w.heap.size w w' := by
  obtain ⟨A, c, B, e, rfl, h2, h3, h4, h5, h6, h7, h8, h9, h10, h11⟩ := h
  have R1 := Lib.hid h4
  have R2 := Lib.hid h5
  have W1 := Lib.hid (show r.now.length ≤ c ∧ c ≤ 9223372036854775807 from ⟨h2, h3⟩)
  have W3 : r.most ≤ 4194304 ∧ r.now.length ≤ r.most ∧ r.old.length ≤ r.most ∧ r.floor ≤ r.most ∧ r.armed ≤ 2305843009213693952 ∧ r.fails ≤ 2305843009213693952 := ⟨h6, h7, h8, h9, h10, h11⟩
  clear h2 h3 h4 h5 h6 h7 h8 h9 h10 h11
  obtain ⟨most, now, old, floor, down, armed, fails, err⟩ := r
  simp only at W3
  go_enter Try.func40, Try.ntmps40
  go_wp2_with fail
  refine bodyPost_ret (v := .tuple #[rfT ⟨most, now, old, floor, down, armed, fails, err⟩ A B c e, .int .i64 (2)]) (by simp [rfT, results, Try.results40, go_sem]) rfl ?_
  refine ⟨_, rfl, RfV.mk ?_ (r := ⟨most, now, old, floor, down, armed, fails, err⟩) W1.out.1 W1.out.2 R1.out R2.out W3.1 W3.2.1 W3.2.2.1 W3.2.2.2.1 W3.2.2.2.2.1 W3.2.2.2.2.2⟩
  first | exact two_below _ _ _ _ _ | exact below_drewN' (two_below _ _ _ _ _) 1
set_option maxRecDepth 100000 in
set_option maxHeartbeats 4000000 in
theorem rarm_any (v : Value) (r : RfS) (n : Nat) (w : World) (h : RfV w v r) : Calls Try.prog 40 #[v, .int .i64 n] w fun e w' => ∃ v', e = .returned (.tuple #[v', .int .i64 0]) ∧ RfV w' v' (r.arm n) ∧ Below w.heap.size w w' := by
  obtain ⟨A, c, B, e, rfl, h2, h3, h4, h5, h6, h7, h8, h9, h10, h11⟩ := h
  have R1 := Lib.hid h4
  have R2 := Lib.hid h5
  have W1 := Lib.hid (show r.now.length ≤ c ∧ c ≤ 9223372036854775807 from ⟨h2, h3⟩)
  have W3 : r.most ≤ 4194304 ∧ r.now.length ≤ r.most ∧ r.old.length ≤ r.most ∧ r.floor ≤ r.most ∧ r.armed ≤ 2305843009213693952 ∧ r.fails ≤ 2305843009213693952 := ⟨h6, h7, h8, h9, h10, h11⟩
  clear h2 h3 h4 h5 h6 h7 h8 h9 h10 h11
  obtain ⟨most, now, old, floor, down, armed, fails, err⟩ := r
  simp only at W3
  have k1 : ¬ (n : Int) < 0 := by omega
  by_cases e1 : 1152921504606846976 < n
  · have k2 : (1152921504606846976 : Int) < n := by omega
    have ex : RfS.arm ⟨most, now, old, floor, down, armed, fails, err⟩ n = ⟨most, now, old, floor, down, 1152921504606846977, fails, err⟩ := by simp only [RfS.arm]; rw [if_pos e1]
    have EX := Lib.hid ex
    clear ex e1
    go_enter Try.func40, Try.ntmps40
    go_wp2_with fail
    rw [EX.out]
    refine bodyPost_ret (v := .tuple #[rfT ⟨most, now, old, floor, down, 1152921504606846977, fails, err⟩ A B c e, .int .i64 (0)]) (by simp [rfT, results, Try.results40, go_sem]) rfl ?_
    refine ⟨_, rfl, RfV.mk ?_ (r := ⟨most, now, old, floor, down, 1152921504606846977, fails, err⟩) W1.out.1 W1.out.2 R1.out R2.out W3.1 W3.2.1 W3.2.2.1 W3.2.2.2.1 (by show 1152921504606846977 ≤ 2305843009213693952; decide) W3.2.2.2.2.2⟩
    first | exact two_below _ _ _ _ _ | exact below_drewN' (two_below _ _ _ _ _) 1
  · have k2 : ¬ (1152921504606846976 : Int) < n := by omega
    have ex : RfS.arm ⟨most, now, old, floor, down, armed, fails, err⟩ n = ⟨most, now, old, floor, down, n + 1, fails, err⟩ := by simp only [RfS.arm]; rw [if_neg e1]
    have EX := Lib.hid ex
    have hA : n + 1 ≤ 2305843009213693952 := by omega
    have k3 : IntKind.i64.wrap ((n : Int) + 1) = ((n + 1 : Nat) : Int) := by simp [IntKind.wrap, IntKind.signed, IntKind.bits]; omega
    obtain ⟨m, hm⟩ : ∃ m, m = n + 1 := ⟨_, rfl⟩
    rw [← hm] at EX hA k3
    clear ex e1 hm
    go_enter Try.func40, Try.ntmps40
    go_wp2_with fail
    rw [EX.out]
    refine bodyPost_ret (v := .tuple #[rfT ⟨most, now, old, floor, down, m, fails, err⟩ A B c e, .int .i64 (0)]) (by simp [rfT, results, Try.results40, go_sem]) rfl ?_
    refine ⟨_, rfl, RfV.mk ?_ (r := ⟨most, now, old, floor, down, m, fails, err⟩) W1.out.1 W1.out.2 R1.out R2.out W3.1 W3.2.1 W3.2.2.1 W3.2.2.2.1 hA W3.2.2.2.2.2⟩
    first | exact two_below _ _ _ _ _ | exact below_drewN' (two_below _ _ _ _ _) 1
set_option maxRecDepth 100000 in
set_option maxHeartbeats 4000000 in
theorem rfail_no (v : Value) (r : RfS) (n er : Int) (w : World) (h : RfV w v r) (hn : failB n er = true) : Calls Try.prog 41 #[v, .int .i64 n, .int .i64 er] w fun e w' => ∃ v', e = .returned (.tuple #[v', .int .i64 2]) ∧ RfV w' v' r ∧ Below w.heap.size w w' := by
  obtain ⟨A, c, B, e, rfl, h2, h3, h4, h5, h6, h7, h8, h9, h10, h11⟩ := h
  have R1 := Lib.hid h4
  have R2 := Lib.hid h5
  have W1 := Lib.hid (show r.now.length ≤ c ∧ c ≤ 9223372036854775807 from ⟨h2, h3⟩)
  have W3 : r.most ≤ 4194304 ∧ r.now.length ≤ r.most ∧ r.old.length ≤ r.most ∧ r.floor ≤ r.most ∧ r.armed ≤ 2305843009213693952 ∧ r.fails ≤ 2305843009213693952 := ⟨h6, h7, h8, h9, h10, h11⟩
  clear h2 h3 h4 h5 h6 h7 h8 h9 h10 h11
  obtain ⟨most, now, old, floor, down, armed, fails, err⟩ := r
  simp only at W3
  by_cases k1 : n < 1
  · clear hn
    go_enter Try.func41, Try.ntmps41
    go_wp2_with fail
    refine bodyPost_ret (v := .tuple #[rfT ⟨most, now, old, floor, down, armed, fails, err⟩ A B c e, .int .i64 (2)]) (by simp [rfT, results, Try.results41, go_sem]) rfl ?_
    refine ⟨_, rfl, RfV.mk ?_ (r := ⟨most, now, old, floor, down, armed, fails, err⟩) W1.out.1 W1.out.2 R1.out R2.out W3.1 W3.2.1 W3.2.2.1 W3.2.2.2.1 W3.2.2.2.2.1 W3.2.2.2.2.2⟩
    first | exact two_below _ _ _ _ _ | exact below_drewN' (two_below _ _ _ _ _) 1
  · unfold failB at hn
    rw [decide_eq_false k1, Bool.false_or, Bool.and_eq_true] at hn
    obtain ⟨k2, k3⟩ := hn
    go_enter Try.func41, Try.ntmps41
    go_wp2_with fail
    refine bodyPost_ret (v := .tuple #[rfT ⟨most, now, old, floor, down, armed, fails, err⟩ A B c e, .int .i64 (2)]) (by simp [rfT, results, Try.results41, go_sem]) rfl ?_
    refine ⟨_, rfl, RfV.mk ?_ (r := ⟨most, now, old, floor, down, armed, fails, err⟩) W1.out.1 W1.out.2 R1.out R2.out W3.1 W3.2.1 W3.2.2.1 W3.2.2.2.1 W3.2.2.2.2.1 W3.2.2.2.2.2⟩
    first | exact two_below _ _ _ _ _ | exact below_drewN' (two_below _ _ _ _ _) 1
set_option maxRecDepth 100000 in
set_option maxHeartbeats 4000000 in
theorem rfail_any (v : Value) (r : RfS) (n : Nat) (er : Int) (w : World) (h : RfV w v r) (hn : failB n er = false) : Calls Try.prog 41 #[v, .int .i64 n, .int .i64 er] w fun e w' => ∃ v', e = .returned (.tuple #[v', .int .i64 0]) ∧ RfV w' v' (r.fail n er) ∧ Below w.heap.size w w' := by
  obtain ⟨A, c, B, e, rfl, h2, h3, h4, h5, h6, h7, h8, h9, h10, h11⟩ := h
  have R1 := Lib.hid h4
  have R2 := Lib.hid h5
  have W1 := Lib.hid (show r.now.length ≤ c ∧ c ≤ 9223372036854775807 from ⟨h2, h3⟩)
  have W3 : r.most ≤ 4194304 ∧ r.now.length ≤ r.most ∧ r.old.length ≤ r.most ∧ r.floor ≤ r.most ∧ r.armed ≤ 2305843009213693952 ∧ r.fails ≤ 2305843009213693952 := ⟨h6, h7, h8, h9, h10, h11⟩
  clear h2 h3 h4 h5 h6 h7 h8 h9 h10 h11
  obtain ⟨most, now, old, floor, down, armed, fails, err⟩ := r
  simp only at W3
  unfold failB at hn
  rw [Bool.or_eq_false_iff, decide_eq_false_iff_not] at hn
  obtain ⟨k1, k2⟩ := hn
  by_cases k3 : er = 10
  all_goals
    first
      | (have k4 : (er != 10) = false := by rw [k3]; rfl
         clear k2)
      | (have k4 : (er != 10) = true := by rw [bne_iff_ne]; exact k3
         rw [k4, Bool.true_and] at k2)
    clear k3
    by_cases e1 : 1152921504606846976 < n
    · have k5 : (1152921504606846976 : Int) < n := by omega
      have ex : RfS.fail ⟨most, now, old, floor, down, armed, fails, err⟩ n er = ⟨most, now, old, floor, down, armed, 1152921504606846977, er⟩ := by simp only [RfS.fail]; rw [if_pos e1]
      have EX := Lib.hid ex
      clear ex e1
      go_enter Try.func41, Try.ntmps41
      go_wp2_with fail
      rw [EX.out]
      refine bodyPost_ret (v := .tuple #[rfT ⟨most, now, old, floor, down, armed, 1152921504606846977, er⟩ A B c e, .int .i64 (0)]) (by simp [rfT, results, Try.results41, go_sem]) rfl ?_
      refine ⟨_, rfl, RfV.mk ?_ (r := ⟨most, now, old, floor, down, armed, 1152921504606846977, er⟩) W1.out.1 W1.out.2 R1.out R2.out W3.1 W3.2.1 W3.2.2.1 W3.2.2.2.1 W3.2.2.2.2.1 (by show 1152921504606846977 ≤ 2305843009213693952; decide)⟩
      first | exact two_below _ _ _ _ _ | exact below_drewN' (two_below _ _ _ _ _) 1
    · have k5 : ¬ (1152921504606846976 : Int) < n := by omega
      have ex : RfS.fail ⟨most, now, old, floor, down, armed, fails, err⟩ n er = ⟨most, now, old, floor, down, armed, n + 1, er⟩ := by simp only [RfS.fail]; rw [if_neg e1]
      have EX := Lib.hid ex
      have hA : n + 1 ≤ 2305843009213693952 := by omega
      have k6 : IntKind.i64.wrap ((n : Int) + 1) = ((n + 1 : Nat) : Int) := by simp [IntKind.wrap, IntKind.signed, IntKind.bits]; omega
      obtain ⟨m, hm⟩ : ∃ m, m = n + 1 := ⟨_, rfl⟩
      rw [← hm] at EX hA k6
      clear ex e1 hm
      go_enter Try.func41, Try.ntmps41
      go_wp2_with fail
      rw [EX.out]
      refine bodyPost_ret (v := .tuple #[rfT ⟨most, now, old, floor, down, armed, m, er⟩ A B c e, .int .i64 (0)]) (by simp [rfT, results, Try.results41, go_sem]) rfl ?_
      refine ⟨_, rfl, RfV.mk ?_ (r := ⟨most, now, old, floor, down, armed, m, er⟩) W1.out.1 W1.out.2 R1.out R2.out W3.1 W3.2.1 W3.2.2.1 W3.2.2.2.1 W3.2.2.2.2.1 hA⟩
      first | exact two_below _ _ _ _ _ | exact below_drewN' (two_below _ _ _ _ _) 1
set_option maxRecDepth 100000 in
set_option maxHeartbeats 4000000 in
theorem rtrunc_no (v : Value) (r : RfS) (n : Int) (w : World) (h : RfV w v r) (hn : n < 0 ∨ (r.now.length : Int) < n) : Calls Try.prog 39 #[v, .int .i64 n] w fun e w' => ∃ v', e = .returned (.tuple #[v', .int .i64 2]) ∧ RfV w' v' r ∧ Below w.heap.size w w' := by
  obtain ⟨A, c, B, e, rfl, h2, h3, h4, h5, h6, h7, h8, h9, h10, h11⟩ := h
  have R1 := Lib.hid h4
  have R2 := Lib.hid h5
  have W1 := Lib.hid (show r.now.length ≤ c ∧ c ≤ 9223372036854775807 from ⟨h2, h3⟩)
  have W3 : r.most ≤ 4194304 ∧ r.now.length ≤ r.most ∧ r.old.length ≤ r.most ∧ r.floor ≤ r.most ∧ r.armed ≤ 2305843009213693952 ∧ r.fails ≤ 2305843009213693952 := ⟨h6, h7, h8, h9, h10, h11⟩
  clear h2 h3 h4 h5 h6 h7 h8 h9 h10 h11
  obtain ⟨most, now, old, floor, down, armed, fails, err⟩ := r
  simp only at W3
  by_cases k1 : n < 0
  · clear hn
    go_enter Try.func39, Try.ntmps39
    go_wp2_with fail
    refine bodyPost_ret (v := .tuple #[rfT ⟨most, now, old, floor, down, armed, fails, err⟩ A B c e, .int .i64 (2)]) (by simp [rfT, results, Try.results39, go_sem]) rfl ?_
    refine ⟨_, rfl, RfV.mk ?_ (r := ⟨most, now, old, floor, down, armed, fails, err⟩) W1.out.1 W1.out.2 R1.out R2.out W3.1 W3.2.1 W3.2.2.1 W3.2.2.2.1 W3.2.2.2.2.1 W3.2.2.2.2.2⟩
    first | exact two_below _ _ _ _ _ | exact below_drewN' (two_below _ _ _ _ _) 1
  · have k2 : (now.length : Int) < n := by rcases hn with h | h; exact absurd h k1; exact h
    clear hn
    go_enter Try.func39, Try.ntmps39
    go_wp2_with fail
    refine bodyPost_ret (v := .tuple #[rfT ⟨most, now, old, floor, down, armed, fails, err⟩ A B c e, .int .i64 (2)]) (by simp [rfT, results, Try.results39, go_sem]) rfl ?_
    refine ⟨_, rfl, RfV.mk ?_ (r := ⟨most, now, old, floor, down, armed, fails, err⟩) W1.out.1 W1.out.2 R1.out R2.out W3.1 W3.2.1 W3.2.2.1 W3.2.2.2.1 W3.2.2.2.2.1 W3.2.2.2.2.2⟩
    first | exact two_below _ _ _ _ _ | exact below_drewN' (two_below _ _ _ _ _) 1
set_option maxRecDepth 100000 in
set_option maxHeartbeats 4000000 in
theorem rread_no (v : Value) (r : RfS) (a n : Int) (w : World) (h : RfV w v r) (ha : a ≤ 9223372036854775807) (hn : a < 0 ∨ n < 0 ∨ (r.now.length : Int) < a ∨ (r.now.length : Int) - a < n) : Calls Try.prog 38 #[v, .int .i64 a, .int .i64 n] w fun e w' => ∃ v', e = .returned (.tuple #[v', .slice none 0 0, .int .i64 2]) ∧ RfV w' v' r ∧ Below w.heap.size w w' := by
  obtain ⟨A, c, B, e, rfl, h2, h3, h4, h5, h6, h7, h8, h9, h10, h11⟩ := h
  have R1 := Lib.hid h4
  have R2 := Lib.hid h5
  have W1 := Lib.hid (show r.now.length ≤ c ∧ c ≤ 9223372036854775807 from ⟨h2, h3⟩)
  have W3 : r.most ≤ 4194304 ∧ r.now.length ≤ r.most ∧ r.old.length ≤ r.most ∧ r.floor ≤ r.most ∧ r.armed ≤ 2305843009213693952 ∧ r.fails ≤ 2305843009213693952 := ⟨h6, h7, h8, h9, h10, h11⟩
  clear h2 h3 h4 h5 h6 h7 h8 h9 h10 h11
  obtain ⟨most, now, old, floor, down, armed, fails, err⟩ := r
  simp only at W3
  by_cases k1 : a < 0
  · clear hn
    go_enter Try.func38, Try.ntmps38
    go_wp2_with fail
    refine bodyPost_ret (v := .tuple #[rfT ⟨most, now, old, floor, down, armed, fails, err⟩ A B c e, .slice none 0 0, .int .i64 (2)]) (by simp [rfT, results, Try.results38, go_sem]) rfl ?_
    refine ⟨_, rfl, RfV.mk ?_ (r := ⟨most, now, old, floor, down, armed, fails, err⟩) W1.out.1 W1.out.2 R1.out R2.out W3.1 W3.2.1 W3.2.2.1 W3.2.2.2.1 W3.2.2.2.2.1 W3.2.2.2.2.2⟩
    first | exact two_below _ _ _ _ _ | exact below_drewN' (two_below _ _ _ _ _) 1
  · by_cases k2 : n < 0
    · clear hn
      go_enter Try.func38, Try.ntmps38
      go_wp2_with fail
      refine bodyPost_ret (v := .tuple #[rfT ⟨most, now, old, floor, down, armed, fails, err⟩ A B c e, .slice none 0 0, .int .i64 (2)]) (by simp [rfT, results, Try.results38, go_sem]) rfl ?_
      refine ⟨_, rfl, RfV.mk ?_ (r := ⟨most, now, old, floor, down, armed, fails, err⟩) W1.out.1 W1.out.2 R1.out R2.out W3.1 W3.2.1 W3.2.2.1 W3.2.2.2.1 W3.2.2.2.2.1 W3.2.2.2.2.2⟩
      first | exact two_below _ _ _ _ _ | exact below_drewN' (two_below _ _ _ _ _) 1
    · by_cases k3 : (now.length : Int) < a
      · clear hn
        go_enter Try.func38, Try.ntmps38
        go_wp2_with fail
        refine bodyPost_ret (v := .tuple #[rfT ⟨most, now, old, floor, down, armed, fails, err⟩ A B c e, .slice none 0 0, .int .i64 (2)]) (by simp [rfT, results, Try.results38, go_sem]) rfl ?_
        refine ⟨_, rfl, RfV.mk ?_ (r := ⟨most, now, old, floor, down, armed, fails, err⟩) W1.out.1 W1.out.2 R1.out R2.out W3.1 W3.2.1 W3.2.2.1 W3.2.2.2.1 W3.2.2.2.2.1 W3.2.2.2.2.2⟩
        first | exact two_below _ _ _ _ _ | exact below_drewN' (two_below _ _ _ _ _) 1
      · have k4 : (now.length : Int) - a < n := by
          rcases hn with h | h | h | h
          · exact absurd h k1
          · exact absurd h k2
          · exact absurd h k3
          · exact h
        have k5 : IntKind.i64.wrap ((now.length : Int) - a) = (now.length : Int) - a := by simp [IntKind.wrap, IntKind.signed, IntKind.bits]; omega
        clear hn
        go_enter Try.func38, Try.ntmps38
        go_wp2_with fail
        refine bodyPost_ret (v := .tuple #[rfT ⟨most, now, old, floor, down, armed, fails, err⟩ A B c e, .slice none 0 0, .int .i64 (2)]) (by simp [rfT, results, Try.results38, go_sem]) rfl ?_
        refine ⟨_, rfl, RfV.mk ?_ (r := ⟨most, now, old, floor, down, armed, fails, err⟩) W1.out.1 W1.out.2 R1.out R2.out W3.1 W3.2.1 W3.2.2.1 W3.2.2.2.1 W3.2.2.2.2.1 W3.2.2.2.2.2⟩
        first | exact two_below _ _ _ _ _ | exact below_drewN' (two_below _ _ _ _ _) 1
def mkR (most : Nat) (b : List Nat) : RfS := ⟨most, b, b, b.length, false, 0, 0, 0⟩
set_option maxRecDepth 100000 in
set_option maxHeartbeats 4000000 in
theorem rload_no (most : Int) (A : Option Addr) (n c : Nat) (w : World) (hb : (decide (most < 0) || decide (4194304 < most) || decide (most < n)) = true) : Calls Try.prog 34 #[.int .i64 most, .slice A n c] w fun e w' => e = .returned (.tuple #[.agg #[.int .i64 0, .slice none 0 0, .slice none 0 0, .int .i64 0, .bool false, .int .i64 0, .int .i64 0, .int .i64 0], .int .i64 2]) ∧ Below w.heap.size w w' := by
  have fin : ∀ cs, Below w.heap.size w (w.alloc (.cells cs 63)) := fun cs => (Below.refl _ _).alloc (Nat.le_refl _) _
  by_cases k1 : most < 0
  · clear hb
    go_enter Try.func34, Try.ntmps34
    go_wp2_with fail
    refine bodyPost_ret (v := .tuple #[.agg #[.int .i64 0, .slice none 0 0, .slice none 0 0, .int .i64 0, .bool false, .int .i64 0, .int .i64 0, .int .i64 0], .int .i64 2]) (by simp [results, Try.results34, go_sem]) rfl ?_
    exact ⟨rfl, fin _⟩
  · by_cases k2 : 4194304 < most
    · clear hb
      go_enter Try.func34, Try.ntmps34
      go_wp2_with fail
      refine bodyPost_ret (v := .tuple #[.agg #[.int .i64 0, .slice none 0 0, .slice none 0 0, .int .i64 0, .bool false, .int .i64 0, .int .i64 0, .int .i64 0], .int .i64 2]) (by simp [results, Try.results34, go_sem]) rfl ?_
      exact ⟨rfl, fin _⟩
    · have k3 : most < n := by simpa [k1, k2] using hb
      clear hb
      go_enter Try.func34, Try.ntmps34
      go_wp2_with fail
      refine bodyPost_ret (v := .tuple #[.agg #[.int .i64 0, .slice none 0 0, .slice none 0 0, .int .i64 0, .bool false, .int .i64 0, .int .i64 0, .int .i64 0], .int .i64 2]) (by simp [results, Try.results34, go_sem]) rfl ?_
      exact ⟨rfl, fin _⟩
set_option maxRecDepth 100000 in
set_option maxHeartbeats 4000000 in
theorem rload_any (most : Nat) (A : Option Addr) (n c : Nat) (b : List Nat) (w : World) (hnb : n = b.length) (hm : most ≤ 4194304) (hb : b.length ≤ most) (hr : Rd w A b) :
    Calls Try.prog 34 #[.int .i64 most, .slice A n c] w fun e w' => ∃ v, e = .returned (.tuple #[v, .int .i64 0]) ∧ RfV w' v (mkR most b) ∧ Below w.heap.size w w' := by
  subst hnb
  have k1 : ¬ (most : Int) < 0 := by omega
  have k2 : ¬ (4194304 : Int) < most := by omega
  have k3 : ¬ (most : Int) < b.length := by omega
  have HR := Lib.hid hr
  clear hr
  go_enter Try.func34, Try.ntmps34
  go_wp2_with fail
  have hal : ∀ cs, Below w.heap.size w (w.alloc (.cells cs 63)) := fun cs => (Below.refl _ _).alloc (Nat.le_refl _) _
  refine (copied_any A b.length c b _ rfl (HR.out.below (hal _)) (by omega)).mono ?_
  rintro e w1 ⟨A1, c1, rfl, ho1, hb1⟩
  have hB1 : Below w.heap.size w w1 := (hal _).trans (hb1.mono (by simp))
  have hc1 := (hb1.block w.heap.size (by simp)).trans (heap_alloc_new w _)
  have O1 := Lib.hid ho1
  have B1 := Lib.hid hB1
  have C1 := Lib.hid hc1
  clear hal ho1 hb1 hB1 hc1
  go_wp2_with fail
  refine (copied_any A b.length c b w1 rfl (HR.out.below B1.out) (by omega)).mono ?_
  rintro e w2 ⟨A2, c2, rfl, ho2, hb2⟩
  have B2 := Lib.hid (B1.out.trans (hb2.mono B1.out.size))
  have C2 := Lib.hid ((hb2.block w.heap.size (lt_of_block C1.out)).trans C1.out)
  obtain ⟨b1, ⟨A1', c1', e1, q1, q1', hr1, -⟩, -⟩ := O1.out.sl
  injection e1 with e1a e1b e1c
  subst e1a; subst e1c
  obtain ⟨A2', c2', e2, -, -, hr2⟩ := ho2.form
  injection e2 with e2a e2b e2c
  subst e2a; subst e2c
  have R1 := Lib.hid (hr1.below hb2)
  have R2 := Lib.hid hr2
  clear ho2 hb2 hr1 hr2 e1b e2b
  go_wp2_with (refine wpList_store_row rfl 63 (.tmp 4) (.tmp 26) rfl w.heap.size (rfC (mkR most b) A1 A2 c1 c2) rfl rfl 63 _ C2.out rf_size rfl (rfC_one _ _ _ _ _) ?_)
  refine bodyPost_ret (results_row_tmp rfl _ _ w.heap.size (rfC (mkR most b) A1 A2 c1 c2) rfl (setRow_heap _ _ _ _ _ _ C2.out) rfl (.int .i64 0) rfl) rfl ?_
  refine ⟨_, rfl, ⟨A1, c1, A2, c2, rfl, q1, q1', R1.out.setRow' C2.out zero_no, R2.out.setRow' C2.out zero_no, hm, hb, hb, hb, by show 0 ≤ 2305843009213693952; decide, by show 0 ≤ 2305843009213693952; decide⟩, below_setRow B2.out (Nat.le_refl _) _⟩
end Go.Proofs.Ytkmjbfednmidbaa
