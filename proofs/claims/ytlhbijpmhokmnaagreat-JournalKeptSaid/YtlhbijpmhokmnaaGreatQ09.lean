/-
  THE WALKS OF sha's round, block. Conditions: numbers in range; 64 bytes.
-/
import Derived.Test.YtlhbijpmhokmnaaGreatQ08
import Derived.Deep.QuietTactic
import Derived.BigQuiet
namespace Go.Proofs.YtlhbijpmhokmnaaGreat
open Go.RowKit
set_option linter.unusedSimpArgs false
set_option linter.unusedVariables false

set_option maxHeartbeats 1000000 in
theorem rotp_any (x c d : Nat) (hx : x < 4294967296) (hc : 1 ≤ c ∧ c ≤ 31) (hd : c + d = 32) (w : World) :
    Calls Tryz.prog 103 #[.int .u32 x, .int .i64 c] w fun e w' => e = .returned (.int .u32 (rr x d : Nat)) ∧ w = w' := by
  obtain rfl : c = 32 - d := by omega
  have k1 : bits BinOp.and IntKind.u64 (((32 - d : Nat) : Int)) 31 = ((32 - d : Nat) : Int) := by
    rw [show (31 : Int) = ((31 : Nat) : Int) from rfl, u64_and_nat _ _ (by omega) (by omega)]
    have : (32 - d) &&& 31 = (32 - d) % 32 := Nat.and_two_pow_sub_one_eq_mod _ 5
    rw [this]
    omega
  have k0 : IntKind.u64.wrap (((32 - d : Nat) : Int)) = ((32 - d : Nat) : Int) := by rw [IntKind.wrap_u64]; omega
  have k2 : ((32 : Int) - ((32 - d : Nat) : Int)) = d := by omega
  have e1 := u32_or_nat (x * 2 ^ (32 - d) % 4294967296) (x / 2 ^ d) (by omega) (Nat.lt_of_le_of_lt (Nat.div_le_self _ _) hx)
  rw [rr_or hx (by omega)] at e1
  have E1 := Lib.hid e1
  clear e1
  go_enter Tryz.func103, Tryz.ntmps103
  go_wp2
  go_ret
  refine ⟨?_, rfl⟩
  rw [← E1.out]
  congr 2
theorem rot_1 (x : Nat) (hx : x < 4294967296) (w : World) : Calls Tryz.prog 103 #[.int .u32 x, .int .i64 1] w fun e w' => e = .returned (.int .u32 (rr x 31 : Nat)) ∧ w = w' := rotp_any x 1 31 hx (by omega) rfl w
theorem rot_5 (x : Nat) (hx : x < 4294967296) (w : World) : Calls Tryz.prog 103 #[.int .u32 x, .int .i64 5] w fun e w' => e = .returned (.int .u32 (rr x 27 : Nat)) ∧ w = w' := rotp_any x 5 27 hx (by omega) rfl w
theorem rot_30 (x : Nat) (hx : x < 4294967296) (w : World) : Calls Tryz.prog 103 #[.int .u32 x, .int .i64 30] w fun e w' => e = .returned (.int .u32 (rr x 2 : Nat)) ∧ w = w' := rotp_any x 30 2 hx (by omega) rfl w
set_option maxHeartbeats 1000000 in
theorem round_any (t b c d : Nat) (ht : t < 80) (hb : b < 4294967296) (hc : c < 4294967296) (hd : d < 4294967296) (w : World) :
    Calls Tryz.prog 104 #[.int .i64 t, .int .u32 b, .int .u32 c, .int .u32 d] w fun e w' => e = .returned (.tuple #[.int .u32 (fR t b c d : Nat), .int .u32 (kR t : Nat)]) ∧ w = w' := by
  have q1 : bits .and .u32 (b : Int) (c : Int) = ((b &&& c : Nat) : Int) := u32_and_nat _ _ hb hc
  have q2 := u32_flip b hb
  have q3 : bits .and .u32 ((4294967295 - b : Nat) : Int) (d : Int) = (((4294967295 - b) &&& d : Nat) : Int) := u32_and_nat _ _ (by omega) hd
  have q4 : bits .or .u32 ((b &&& c : Nat) : Int) (((4294967295 - b) &&& d : Nat) : Int) = (((b &&& c) ||| ((4294967295 - b) &&& d) : Nat) : Int) := u32_or_nat _ _ (and_lt32 hb) (Nat.lt_of_le_of_lt Nat.and_le_right hd)
  have q5 : bits .xor .u32 (b : Int) (c : Int) = ((b ^^^ c : Nat) : Int) := u32_xor_nat _ _ hb hc
  have q6 : bits .xor .u32 ((b ^^^ c : Nat) : Int) (d : Int) = ((b ^^^ c ^^^ d : Nat) : Int) := u32_xor_nat _ _ (xor_lt32 hb hc) hd
  have q7 : bits .and .u32 (b : Int) (d : Int) = ((b &&& d : Nat) : Int) := u32_and_nat _ _ hb hd
  have q8 : bits .and .u32 (c : Int) (d : Int) = ((c &&& d : Nat) : Int) := u32_and_nat _ _ hc hd
  have q9 : bits .or .u32 ((b &&& c : Nat) : Int) ((b &&& d : Nat) : Int) = (((b &&& c) ||| (b &&& d) : Nat) : Int) := u32_or_nat _ _ (and_lt32 hb) (and_lt32 hb)
  have qa : bits .or .u32 (((b &&& c) ||| (b &&& d) : Nat) : Int) ((c &&& d : Nat) : Int) = (((b &&& c) ||| (b &&& d) ||| (c &&& d) : Nat) : Int) := u32_or_nat _ _ (or_lt32 (and_lt32 hb) (and_lt32 hb)) (and_lt32 hc)
  have hcase : t < 20 ∨ (¬ t < 20 ∧ t < 40) ∨ (¬ t < 20 ∧ ¬ t < 40 ∧ t < 60) ∨ (¬ t < 20 ∧ ¬ t < 40 ∧ ¬ t < 60) := by omega
  unfold fR kR
  rcases hcase with h | ⟨h1, h⟩ | ⟨h1, h2, h⟩ | ⟨h1, h2, h⟩
  · have k : (t : Int) / 20 = 0 := by omega
    rw [if_pos h, if_pos h]
    clear h
    go_enter Tryz.func104, Tryz.ntmps104
    go_wp2
    go_ret2
    exact ⟨rfl, rfl⟩
  · have k : (t : Int) / 20 = 1 := by omega
    rw [if_neg h1, if_neg h1, if_pos h, if_pos h]
    clear h h1
    go_enter Tryz.func104, Tryz.ntmps104
    go_wp2
    go_ret2
    exact ⟨rfl, rfl⟩
  · have k : (t : Int) / 20 = 2 := by omega
    rw [if_neg h1, if_neg h1, if_neg h2, if_neg h2, if_pos h, if_pos h]
    clear h h1 h2
    go_enter Tryz.func104, Tryz.ntmps104
    go_wp2
    go_ret2
    exact ⟨rfl, rfl⟩
  · have k : (t : Int) / 20 = 3 := by omega
    rw [if_neg h1, if_neg h1, if_neg h2, if_neg h2, if_neg h, if_neg h]
    clear h h1 h2
    go_enter Tryz.func104, Tryz.ntmps104
    go_wp2
    go_ret2
    exact ⟨rfl, rfl⟩
set_option maxRecDepth 100000 in
set_option maxHeartbeats 2000000 in
theorem sat_any (t pb : Nat) (ht : t < 16) (AP : Option Addr) (c : Nat) (p : List Nat) (hp : p.length = 64) (w : World) (hr : Rd w AP p) (hc : w.cell? ⟨pb, 0, none⟩ = some (.slice AP 64 c)) :
    Calls Tryz.prog 102 #[.int .i64 t, .pointer (some ⟨pb, 0, none⟩)] w fun e w' => e = .returned (.int .u32 (be4 p (4 * t) : Nat)) ∧ ∃ n, w' = w.drewN n := by
  obtain ⟨gp, op, rfl, hgp, hcp⟩ := hr.2 (by intro e; rw [e] at hp; simp at hp)
  have hpb := hr.1
  have c0 := hcp (4 * t) (by omega)
  have c1 := hcp (4 * t + 1) (by omega)
  have c2 := hcp (4 * t + 2) (by omega)
  have c3 := hcp (4 * t + 3) (by omega)
  have b0 := nth_lt hpb (4 * t)
  have b1 := nth_lt hpb (4 * t + 1)
  have b2 := nth_lt hpb (4 * t + 2)
  have b3 := nth_lt hpb (4 * t + 3)
  have hv : be4 p (4 * t) = nth p (4 * t) * 16777216 + nth p (4 * t + 1) * 65536 + nth p (4 * t + 2) * 256 + nth p (4 * t + 3) := rfl
  generalize nth p (4 * t) = a0 at *
  generalize nth p (4 * t + 1) = a1 at *
  generalize nth p (4 * t + 2) = a2 at *
  generalize nth p (4 * t + 3) = a3 at *
  have ev : (a0 : Int) * 16777216 + (a1 : Int) * 65536 + (a2 : Int) * 256 + a3 = (be4 p (4 * t) : Nat) := by rw [hv]; omega
  have HE := Lib.hid ev
  clear ev hv hcp hr hpb hp
  have k0 : (4 * (t : Int)).toNat = 4 * t := by omega
  have k1 : (4 * (t : Int) + 1).toNat = 4 * t + 1 := by omega
  have k2 : (4 * (t : Int) + 2).toNat = 4 * t + 2 := by omega
  have k3 : (4 * (t : Int) + 3).toNat = 4 * t + 3 := by omega
  have m0 : 4 * (t : Int) < 64 := by omega
  have m1 : 4 * (t : Int) + 1 < 64 := by omega
  have m2 : 4 * (t : Int) + 2 < 64 := by omega
  have m3 : 4 * (t : Int) + 3 < 64 := by omega
  have n0 : 0 ≤ 4 * (t : Int) := by omega
  have n1 : 0 ≤ 4 * (t : Int) + 1 := by omega
  have n2 : 0 ≤ 4 * (t : Int) + 2 := by omega
  have n3 : 0 ≤ 4 * (t : Int) + 3 := by omega
  have e0 : IntKind.i64.wrap (4 * (t : Int)) = 4 * t := by simp [IntKind.wrap, IntKind.signed, IntKind.bits]; omega
  have e1 : IntKind.i64.wrap (4 * (t : Int) + 1) = 4 * t + 1 := by simp [IntKind.wrap, IntKind.signed, IntKind.bits]; omega
  have e2 : IntKind.i64.wrap (4 * (t : Int) + 2) = 4 * t + 2 := by simp [IntKind.wrap, IntKind.signed, IntKind.bits]; omega
  have e3 : IntKind.i64.wrap (4 * (t : Int) + 3) = 4 * t + 3 := by simp [IntKind.wrap, IntKind.signed, IntKind.bits]; omega
  have s0 : IntKind.u32.wrap ((a0 : Int) * 16777216) = a0 * 16777216 := by rw [IntKind.wrap_u32]; omega
  have s1 : IntKind.u32.wrap ((a1 : Int) * 65536) = a1 * 65536 := by rw [IntKind.wrap_u32]; omega
  have s2 : IntKind.u32.wrap ((a2 : Int) * 256) = a2 * 256 := by rw [IntKind.wrap_u32]; omega
  have u0 : IntKind.u32.wrap (a0 : Int) = a0 := by rw [IntKind.wrap_u32]; omega
  have u1 : IntKind.u32.wrap (a1 : Int) = a1 := by rw [IntKind.wrap_u32]; omega
  have u2 : IntKind.u32.wrap (a2 : Int) = a2 := by rw [IntKind.wrap_u32]; omega
  have u3 : IntKind.u32.wrap (a3 : Int) = a3 := by rw [IntKind.wrap_u32]; omega
  have o1 := or_24 a0 a1 b0 b1
  have o2 := or_16 a0 a1 a2 b0 b1 b2
  have o3 := or_8 a0 a1 a2 a3 b0 b1 b2 b3
  go_enter Tryz.func102, Tryz.ntmps102
  go_wp2_with fail
  go_quiet (fail)
  go_wp2
  go_ret
  rw [HE.out]
  exact ⟨rfl, _, rfl⟩
def stV5 (s : S5) : Value := .agg #[.int .u32 s.a, .int .u32 s.b, .int .u32 s.c, .int .u32 s.d, .int .u32 s.e]
theorem rot1_still (x : Nat) (hx : x < 4294967296) (w : World) : Calls Tryz.prog 103 #[.int .u32 x, .int .i64 1] w fun e w' => e = .returned (.int .u32 (rr x 31 : Nat)) ∧ w' = w :=
  (rot_1 x hx w).mono fun _ _ ⟨h, k⟩ => ⟨h, k.symm⟩
theorem size80 : (Tryz.prog.info? 130).map (·.size) = some 80 := by kernel_rfl
theorem size5 : (Tryz.prog.info? 116).map (·.size) = some 5 := by kernel_rfl
theorem ix80 (cs : Array Value) (hn : cs.size = 80) (i : Nat) (hi : i < 80) (x : Value) (hx : cs[i]? = some x) (w : World) : (Instr.index 130 (.agg cs) (.int .i64 (i : Int))).run Tryz.prog w = .ok x w := by
  have h1 : 0 ≤ (i : Int) ∧ (i : Int) < 80 := by omega
  simp [Instr.index, run_underlying Tryz.underlying130, asIntOf, go_sem, h1, hx, show ¬ 80 ≤ i by omega]
theorem row5_set {w : World} {V u : Nat} {F : Nat → Value} (h : w.rowIs V u 5 F) (x0 x1 x2 x3 x4 : Value) (G : Nat → Value) (g0 : G 0 = x0) (g1 : G 1 = x1) (g2 : G 2 = x2) (g3 : G 3 = x3) (g4 : G 4 = x4) :
    (((((w.setCell ⟨V, 0, none⟩ x0).setCell ⟨V, 1, none⟩ x1).setCell ⟨V, 2, none⟩ x2).setCell ⟨V, 3, none⟩ x3).setCell ⟨V, 4, none⟩ x4).rowIs V u 5 G := by
  refine (((((h.set 0 x0).set 1 x1).set 2 x2).set 3 x3).set 4 x4).congr fun i hi => ?_
  match i, hi with
  | 0, _ => simp [g0]
  | 1, _ => simp [g1]
  | 2, _ => simp [g2]
  | 3, _ => simp [g3]
  | 4, _ => simp [g4]
theorem grown5 {w W : World} {V : Nat} (h : w.grownBy W (some V)) (x0 x1 x2 x3 x4 : Value) :
    w.grownBy (((((W.setCell ⟨V, 0, none⟩ x0).setCell ⟨V, 1, none⟩ x1).setCell ⟨V, 2, none⟩ x2).setCell ⟨V, 3, none⟩ x3).setCell ⟨V, 4, none⟩ x4) (some V) :=
  grown_set (p := ⟨V, 4, none⟩) (grown_set (p := ⟨V, 3, none⟩) (grown_set (p := ⟨V, 2, none⟩) (grown_set (p := ⟨V, 1, none⟩) (grown_set (p := ⟨V, 0, none⟩) h (.inl rfl) x0) (.inl rfl) x1) (.inl rfl) x2) (.inl rfl) x3) (.inl rfl) x4
theorem agg5 {cs : Array Value} {z : S5} (h : cs.size = 5) (hc : ∀ i, i < 5 → cs[i]? = some (.int .u32 (z.word i : Nat))) : Value.agg cs = stV5 z := by
  unfold stV5
  congr 1
  apply Array.ext'
  apply List.ext_getElem?
  intro i
  rw [Array.getElem?_toList]
  rcases Nat.lt_or_ge i 5 with hi | hi
  · rw [hc i hi]
    match i, hi with
    | 0, _ => rfl
    | 1, _ => rfl
    | 2, _ => rfl
    | 3, _ => rfl
    | 4, _ => rfl
  · rw [Array.getElem?_eq_none (by omega), List.getElem?_eq_none (by simpa using hi)]
theorem zero80 : (Tryz.zeroCells130).size = 80 ∧ ∀ i, i < 80 → (Tryz.zeroCells130)[i]? = some (.int .u32 (0 : Nat)) := by
  have e : Tryz.zeroCells130 = ((List.range 80).map fun _ => Value.int .u32 0).toArray := by kernel_rfl
  rw [e]
  exact ⟨by simp, fun i hi => by simp [hi]⟩
theorem four_rows (w : World) (s : S5) (S : List Nat) (v : Value) : ∃ W, W = ((((w.alloc (.cells #[.int .u32 s.a, .int .u32 s.b, .int .u32 s.c, .int .u32 s.d, .int .u32 s.e] 116)).alloc (.cells #[v] 22)).alloc (.cells #[.int .u32 0, .int .u32 0, .int .u32 0, .int .u32 0, .int .u32 0] 116)).alloc (.cells Tryz.zeroCells130 130)) ∧
    Below w.heap.size w W ∧ W.rowIs w.heap.size 116 5 (fun j => .int .u32 (s.word j : Nat)) ∧ W.cell? ⟨w.heap.size + 1, 0, none⟩ = some v ∧ W.rowIs (w.heap.size + 1 + 1) 116 5 (fun _ => .int .u32 (0 : Nat)) ∧
    W.rowIs (w.heap.size + 1 + 1 + 1) 130 80 (fun j => .int .u32 (upd 0 (nth S) (fun _ => 0) j : Nat)) ∧ W.heap.size = w.heap.size + 4 := by
  obtain ⟨A, hA⟩ : ∃ A, A = w.alloc (.cells #[.int .u32 s.a, .int .u32 s.b, .int .u32 s.c, .int .u32 s.d, .int .u32 s.e] 116) := ⟨_, rfl⟩
  obtain ⟨B, hB⟩ : ∃ B, B = A.alloc (.cells #[v] 22) := ⟨_, rfl⟩
  obtain ⟨C, hC⟩ : ∃ C, C = B.alloc (.cells #[.int .u32 0, .int .u32 0, .int .u32 0, .int .u32 0, .int .u32 0] 116) := ⟨_, rfl⟩
  have sA : A.heap.size = w.heap.size + 1 := by rw [hA]; simp
  have sB : B.heap.size = w.heap.size + 1 + 1 := by rw [hB]; simp [sA]
  have sC : C.heap.size = w.heap.size + 1 + 1 + 1 := by rw [hC]; simp [sB]
  have r0 : A.rowIs w.heap.size 116 5 (fun j => .int .u32 (s.word j : Nat)) := by
    rw [hA]
    refine rowNew rfl rfl fun i hi => ?_
    match i, hi with
    | 0, _ => rfl
    | 1, _ => rfl
    | 2, _ => rfl
    | 3, _ => rfl
    | 4, _ => rfl
  have r1 : B.cell? ⟨w.heap.size + 1, 0, none⟩ = some v := by rw [hB, ← sA]; exact new_cell _ _ _
  have r2 : C.rowIs (w.heap.size + 1 + 1) 116 5 (fun _ => .int .u32 (0 : Nat)) := by
    rw [hC]
    refine rowNew sB.symm rfl fun i hi => ?_
    match i, hi with
    | 0, _ => rfl
    | 1, _ => rfl
    | 2, _ => rfl
    | 3, _ => rfl
    | 4, _ => rfl
  have bA : Below w.heap.size w A := by rw [hA]; exact (Below.refl _ _).alloc (Nat.le_refl _) _
  have bB : Below A.heap.size A B := by rw [hB]; exact (Below.refl _ _).alloc (Nat.le_refl _) _
  have bC : Below B.heap.size B C := by rw [hC]; exact (Below.refl _ _).alloc (Nat.le_refl _) _
  have bD : Below C.heap.size C (C.alloc (.cells Tryz.zeroCells130 130)) := (Below.refl _ _).alloc (Nat.le_refl _) _
  refine ⟨_, rfl, ?_, ?_, ?_, ?_, ?_, ?_⟩
  all_goals rw [← hA, ← hB, ← hC]
  · exact ((bA.trans (bB.mono (by omega))).trans (bC.mono (by omega))).trans (bD.mono (by omega))
  · exact below_row bD (below_row bC (below_row bB r0 (by omega)) (by omega)) (by omega)
  · rw [bD.cell (p := ⟨w.heap.size + 1, 0, none⟩) (by show w.heap.size + 1 < _; omega), bC.cell (p := ⟨w.heap.size + 1, 0, none⟩) (by show w.heap.size + 1 < _; omega)]; exact r1
  · exact r2.alloc _
  · refine rowNew sC.symm zero80.1 fun i hi => ?_
    rw [zero80.2 i hi, upd_zero]
  · simp [sC]
set_option maxRecDepth 100000 in
set_option maxHeartbeats 8000000 in
theorem block5_S (S : List Nat) (s : S5) (hs : s.Wf) (AP : Option Addr) (c : Nat) (p : List Nat) (hp : p.length = 64) (w : World) (hr : Rd w AP p)
    (hSS : ∀ t, t < 80 → nth S t = nextV p S t) (hSb : ∀ t, t < 80 → nth S t < 4294967296) :
    Calls Tryz.prog 89 #[.agg #[.int .u32 s.a, .int .u32 s.b, .int .u32 s.c, .int .u32 s.d, .int .u32 s.e], .slice AP 64 c] w
      fun e w' => e = .returned (stV5 (s.add (rounds5 S s 80))) ∧ Below w.heap.size w w' := by
  have HSS := Lib.hid hSS
  have HSB := Lib.hid hSb
  have HP := Lib.hid hp
  have HS := Lib.hid hs
  have HR := Lib.hid hr
  clear hs hr hSS hSb hp
  go_enter Tryz.func89, Tryz.ntmps89
  go_wp2_with fail
  obtain ⟨W, hW, hb0, hrH, hcP, hrR, hrV, hz0⟩ := four_rows w s S (.slice AP 64 c)
  rw [← hW]
  have HB0 := Lib.hid hb0
  have HH := Lib.hid hrH
  have HCP := Lib.hid hcP
  have HRR := Lib.hid hrR
  clear hb0 hrH hcP hrR hW
  go_loopw [18] (fun i wr => ∃ t : Nat, t ≤ 80 ∧ i = .int .i64 t ∧ wr.rowIs (w.heap.size + 1 + 1 + 1) 130 80 (fun j => .int .u32 (upd t (nth S) (fun _ => 0) j : Nat)) ∧ W.grownBy wr (some (w.heap.size + 1 + 1 + 1))) (fun i _ => 80 - (intOf i).toNat)
  case atStart => exact ⟨0, by omega, rfl, hrV, grown_refl _ _⟩
  case round =>
    clear hrV
    obtain ⟨t, ht, rfl, hr7, hg⟩ := hrel
    have H7 := Lib.hid hr7
    have HG := Lib.hid hg
    clear hr7 hg
    have hB : Below w.heap.size w wr := below_of_grown HB0.out HG.out (by omega) (by omega)
    have HB := Lib.hid hB
    clear hB
    by_cases t16 : t < 16
    · have hv : nth S t = be4 p (4 * t) := by rw [HSS.out t (by omega), nextV, if_pos t16]
      have hcp := (grown_cell HG.out (p := ⟨w.heap.size + 1, 0, none⟩) (by show w.heap.size + 1 < _; omega) (by show w.heap.size + 1 ≠ _; omega)).trans HCP.out
      have HV := Lib.hid hv
      have HCW := Lib.hid hcp
      have HZ := Lib.hid hz0
      have t16' : (t : Int) < 16 := by omega
      have t80' : (t : Int) < 80 := by omega
      clear hv hcp hz0
      go_wp2_with fail
      refine (sat_any t (w.heap.size + 1) t16 AP c p HP.out wr (HR.out.below HB.out) HCW.out).mono ?_
      rintro e w' ⟨rfl, n, rfl⟩
      have h7 := rowIs_drewN' H7.out n
      have hg7 := grown_drewN HG.out n
      rw [← HV.out]
      generalize wr.drewN n = Y at *
      have x7 := h7.frozen t
      have y7 := h7.cell (i := t) (by omega)
      have H7' := Lib.hid h7
      have HG' := Lib.hid hg7
      clear h7 hg7 HB H7 HG HCW
      go_wp2
      go_roundw
      case rel => exact ⟨t + 1, by omega, by go_num, row_upd32 H7'.out, grown_set HG'.out (.inl rfl) _⟩
      case measure => simp [intOf]; omega
    · by_cases t80 : t < 80
      · have c3 := H7.out.cell (i := t - 3) (by omega)
        have c8 := H7.out.cell (i := t - 8) (by omega)
        have c14 := H7.out.cell (i := t - 14) (by omega)
        have c16 := H7.out.cell (i := t - 16) (by omega)
        rw [upd_lt _ _ (by omega)] at c3 c8 c14 c16
        have b3 := HSB.out (t - 3) (by omega)
        have b8 := HSB.out (t - 8) (by omega)
        have b14 := HSB.out (t - 14) (by omega)
        have b16 := HSB.out (t - 16) (by omega)
        have hv : nth S t = rr (nth S (t - 3) ^^^ nth S (t - 8) ^^^ nth S (t - 14) ^^^ nth S (t - 16)) 31 := by
          rw [HSS.out t (by omega), nextV, if_neg t16]
        generalize nth S (t - 3) = a3 at *
        generalize nth S (t - 8) = a8 at *
        generalize nth S (t - 14) = a14 at *
        generalize nth S (t - 16) = a16 at *
        have q1 : bits .xor .u32 (a3 : Int) (a8 : Int) = ((a3 ^^^ a8 : Nat) : Int) := u32_xor_nat _ _ b3 b8
        have q2 : bits .xor .u32 ((a3 ^^^ a8 : Nat) : Int) (a14 : Int) = ((a3 ^^^ a8 ^^^ a14 : Nat) : Int) := u32_xor_nat _ _ (xor_lt32 b3 b8) b14
        have q3 : bits .xor .u32 ((a3 ^^^ a8 ^^^ a14 : Nat) : Int) (a16 : Int) = ((a3 ^^^ a8 ^^^ a14 ^^^ a16 : Nat) : Int) := u32_xor_nat _ _ (xor_lt32 (xor_lt32 b3 b8) b14) b16
        have b4 := xor_lt32 (xor_lt32 (xor_lt32 b3 b8) b14) b16
        have HV := Lib.hid hv
        have C3 := Lib.hid c3
        have C8 := Lib.hid c8
        have C14 := Lib.hid c14
        have C16 := Lib.hid c16
        have x7 := H7.out.frozen t
        have y7 := H7.out.cell (i := t) (by omega)
        have X7 := Lib.hid x7
        have Y7 := Lib.hid y7
        have t16' : ¬ (t : Int) < 16 := by omega
        have t80' : (t : Int) < 80 := by omega
        clear hv c3 c8 c14 c16 x7 y7
        go_upto_region 8 with fail
        have e3 : IntKind.i64.wrap ((t : Int) - 3) = ((t - 3 : Nat) : Int) := by simp [IntKind.wrap, IntKind.signed, IntKind.bits]; omega
        have e8 : IntKind.i64.wrap ((t : Int) - 8) = ((t - 8 : Nat) : Int) := by simp [IntKind.wrap, IntKind.signed, IntKind.bits]; omega
        have e14 : IntKind.i64.wrap ((t : Int) - 14) = ((t - 14 : Nat) : Int) := by simp [IntKind.wrap, IntKind.signed, IntKind.bits]; omega
        have e16 : IntKind.i64.wrap ((t : Int) - 16) = ((t - 16 : Nat) : Int) := by simp [IntKind.wrap, IntKind.signed, IntKind.bits]; omega
        have m3 : ((t - 3 : Nat) : Int) < 80 := by omega
        have m8 : ((t - 8 : Nat) : Int) < 80 := by omega
        have m14 : ((t - 14 : Nat) : Int) < 80 := by omega
        have m16 : ((t - 16 : Nat) : Int) < 80 := by omega
        have c3 := C3.out
        have c8 := C8.out
        have c14 := C14.out
        have c16 := C16.out
        have x7 := X7.out
        have y7 := Y7.out
        refine wp_region_still_tail 22 (by kernel_rfl) (by kernel_rfl) ?_
        simp only [List.take_succ_cons, List.take_zero, List.drop_succ_cons, List.drop_zero]
        repeat still_step
        still_call (rot1_still _ b4 _)
        repeat still_step
        try refine wpStill_nil ?_
        change wpList _ _ _ _ _ wr.drew
        clear C3 C8 C14 C16 X7 Y7 c3 c8 c14 c16
        go_wp2
        go_roundw
        case rel =>
          refine ⟨t + 1, by omega, by go_num, ?_, ?_⟩
          · exact row_upd32v H7.out.drew (by rw [HV.out])
          · exact grown_set (grown_drew HG.out) (.inl rfl) _
        case measure => simp [intOf]; omega
      · obtain rfl : t = 80 := by omega
        have h7' := H7.out.congr (g := fun j => .int .u32 (nth S j : Nat)) (fun j hj => by rw [upd_lt _ _ hj])
        have h4' := HH.out.of_block (HG.out.block w.heap.size (by omega) (by intro e; injection e with e; omega))
        have h6' := HRR.out.of_block (HG.out.block (w.heap.size + 1 + 1) (by omega) (by intro e; injection e with e; omega))
        have hsz : w.heap.size + 4 ≤ wr.heap.size := by have := HG.out.size; omega
        have y0 : wr.cell? ⟨w.heap.size, 0, none⟩ = some (.int .u32 s.a) := h4'.cell (i := 0) (by omega)
        have y1 : wr.cell? ⟨w.heap.size, 1, none⟩ = some (.int .u32 s.b) := h4'.cell (i := 1) (by omega)
        have y2 : wr.cell? ⟨w.heap.size, 2, none⟩ = some (.int .u32 s.c) := h4'.cell (i := 2) (by omega)
        have y3 : wr.cell? ⟨w.heap.size, 3, none⟩ = some (.int .u32 s.d) := h4'.cell (i := 3) (by omega)
        have y4 : wr.cell? ⟨w.heap.size, 4, none⟩ = some (.int .u32 s.e) := h4'.cell (i := 4) (by omega)
        have H7' := Lib.hid h7'
        have H4' := Lib.hid h4'
        have H6' := Lib.hid h6'
        have HSZ := Lib.hid hsz
        clear H7 HG HH HRR h7' h4' h6' hsz t80 t16 ht HB0 hz0 HCP
        go_upto_region 10 with fail
        go_quiet (fail)
        have hbq := below_drewN' HB.out nq
        have h7q := rowIs_drewN' H7'.out nq
        have h4q := rowIs_drewN' H4'.out nq
        have h6q := rowIs_drewN' H6'.out nq
        have hsq : w.heap.size + 4 ≤ (wr.drewN nq).heap.size := HSZ.out
        clear y0 y1 y2 y3 y4 HB H7' H4' H6' HSZ
        generalize wr.drewN nq = Q at *
        obtain ⟨cs, hcs, hcn, hci⟩ := h7q
        have CS := Lib.hid hcs
        have CN := Lib.hid hcn
        have CI := Lib.hid hci
        have HBQ := Lib.hid hbq
        have H4 := Lib.hid h4q
        have H6 := Lib.hid h6q
        have HSQ := Lib.hid hsq
        clear hcs hcn hci hbq h4q h6q hsq
        go_wp2_with (refine wpList_load_row rfl 130 (.tmp 5) rfl (w.heap.size + 1 + 1 + 1) rfl 130 cs (0, 0) _ CS.out Tryz.underlying130 rfl (by rw [CN.out]; exact size80) ?_)
        go_loopw [8, 9, 10, 11, 12, 62] (fun a b c d e i wq => ∃ (t : Nat) (v : S5), t ≤ 80 ∧ i = .int .i64 t ∧ v = rounds5 S s t ∧ a = .int .u32 v.a ∧ b = .int .u32 v.b ∧ c = .int .u32 v.c ∧ d = .int .u32 v.d ∧ e = .int .u32 v.e ∧ wq = Q) (fun _ _ _ _ _ i _ => 80 - (intOf i).toNat)
        case atStart => exact ⟨0, s, by omega, rfl, rfl, rfl, rfl, rfl, rfl, rfl, rfl⟩
        case round =>
          obtain ⟨t, v, ht, rfl, hv, rfl, rfl, rfl, rfl, rfl, rfl⟩ := hrel
          have hw : v.Wf := by rw [hv]; exact rounds5_wf S HS.out t
          have HVV := Lib.hid hv
          clear hv
          by_cases t80 : t < 80
          · obtain ⟨l0, l1, l2, l3, l4⟩ := hw
            have hix := ix80 cs CN.out t t80 _ (CI.out t t80)
            have t80' : (t : Int) < 80 := by omega
            go_wp2_with fail
            refine (round_any t v.b v.c v.d t80 l1 l2 l3 wr).mono ?_
            rintro e w' ⟨rfl, rfl⟩
            have lf := fR_lt t l1 l2 l3
            generalize hf : fR t v.b v.c v.d = f at *
            have HF := Lib.hid hf
            have lk := kR_lt t
            generalize hkk : kR t = k at *
            have HK := Lib.hid hkk
            clear hf hkk
            go_wp2_with fail
            refine (rot_5 v.a l0 wr).mono ?_
            rintro e w' ⟨rfl, rfl⟩
            go_wp2_with fail
            refine (rot_30 v.b l1 wr).mono ?_
            rintro e w' ⟨rfl, rfl⟩
            go_wp2_with fail
            refine ⟨⟨t + 1, rnd5 t (nth S t) v, by omega, by go_num, by rw [HVV.out]; rfl, ?_, by first | rfl | trivial, by first | rfl | trivial, by first | rfl | trivial, by first | rfl | trivial, by first | rfl | trivial⟩, ?_⟩
            · show _ = Value.int .u32 (((rr v.a 27 + fR t v.b v.c v.d + v.e + kR t + nth S t) % 4294967296 : Nat) : Int)
              rw [HF.out, HK.out]
              congr 1
              all_goals (simp only [IntKind.wrap_u32]; omega)
            · (simp [intOf]) <;> omega
          · obtain rfl : t = 80 := by omega
            have y0 : wr.cell? ⟨w.heap.size, 0, none⟩ = some (.int .u32 s.a) := H4.out.cell (i := 0) (by omega)
            have y1 : wr.cell? ⟨w.heap.size, 1, none⟩ = some (.int .u32 s.b) := H4.out.cell (i := 1) (by omega)
            have y2 : wr.cell? ⟨w.heap.size, 2, none⟩ = some (.int .u32 s.c) := H4.out.cell (i := 2) (by omega)
            have y3 : wr.cell? ⟨w.heap.size, 3, none⟩ = some (.int .u32 s.d) := H4.out.cell (i := 3) (by omega)
            have y4 : wr.cell? ⟨w.heap.size, 4, none⟩ = some (.int .u32 s.e) := H4.out.cell (i := 4) (by omega)
            have x0 := H6.out.cell (i := 0) (by omega)
            have x1 := H6.out.cell (i := 1) (by omega)
            have x2 := H6.out.cell (i := 2) (by omega)
            have x3 := H6.out.cell (i := 3) (by omega)
            have x4 := H6.out.cell (i := 4) (by omega)
            have f0 := H6.out.frozen 0
            have f1 := H6.out.frozen 1
            have f2 := H6.out.frozen 2
            have f3 := H6.out.frozen 3
            have f4 := H6.out.frozen 4
            obtain ⟨z, hz⟩ : ∃ z, z = s.add v := ⟨_, rfl⟩
            have k0 : IntKind.u32.wrap ((s.a : Int) + v.a) = (z.a : Nat) := by rw [hz, IntKind.wrap_u32]; show _ = (((s.a + v.a) % 4294967296 : Nat) : Int); omega
            have k1 : IntKind.u32.wrap ((s.b : Int) + v.b) = (z.b : Nat) := by rw [hz, IntKind.wrap_u32]; show _ = (((s.b + v.b) % 4294967296 : Nat) : Int); omega
            have k2 : IntKind.u32.wrap ((s.c : Int) + v.c) = (z.c : Nat) := by rw [hz, IntKind.wrap_u32]; show _ = (((s.c + v.c) % 4294967296 : Nat) : Int); omega
            have k3 : IntKind.u32.wrap ((s.d : Int) + v.d) = (z.d : Nat) := by rw [hz, IntKind.wrap_u32]; show _ = (((s.d + v.d) % 4294967296 : Nat) : Int); omega
            have k4 : IntKind.u32.wrap ((s.e : Int) + v.e) = (z.e : Nat) := by rw [hz, IntKind.wrap_u32]; show _ = (((s.e + v.e) % 4294967296 : Nat) : Int); omega
            have HZ := Lib.hid hz
            clear hz
            go_wp2
            obtain ⟨ds, e1, e2, e3⟩ := row5_set H6.out (.int .u32 (z.a : Nat)) (.int .u32 (z.b : Nat)) (.int .u32 (z.c : Nat)) (.int .u32 (z.d : Nat)) (.int .u32 (z.e : Nat)) (fun j => .int .u32 (z.word j : Nat)) rfl rfl rfl rfl rfl
            refine bodyPost_ret (results_cell_row rfl _ _ (w.heap.size + 1 + 1) 116 ds (0, 0) _ rfl e1 Tryz.underlying116 rfl (by rw [e2]; exact size5)) rfl ?_
            refine ⟨by rw [agg5 e2 e3, HZ.out, HVV.out], ?_⟩
            exact below_of_grown HBQ.out (grown5 (V := w.heap.size + 1 + 1) (grown_refl wr (some (w.heap.size + 1 + 1))) _ _ _ _ _) HBQ.out.size (by omega)
theorem nextV_sched (p : List Nat) {t : Nat} (ht : t < 80) : nth (sched1 p 80) t = nextV p (sched1 p 80) t := by
  rw [sched1_nth p ht]
  unfold nextV
  by_cases h : t < 16
  · rw [if_pos h, if_pos h]
  · rw [if_neg h, if_neg h, sched1_nth p (s := t - 3) (t := t) (by omega), sched1_nth p (s := t - 3) (t := 80) (by omega), sched1_nth p (s := t - 8) (t := t) (by omega), sched1_nth p (s := t - 8) (t := 80) (by omega),
      sched1_nth p (s := t - 14) (t := t) (by omega), sched1_nth p (s := t - 14) (t := 80) (by omega), sched1_nth p (s := t - 16) (t := t) (by omega), sched1_nth p (s := t - 16) (t := 80) (by omega)]
theorem block5_any (s : S5) (hs : s.Wf) (AP : Option Addr) (c : Nat) (p : List Nat) (hp : p.length = 64) (w : World) (hr : Rd w AP p) :
    Calls Tryz.prog 89 #[.agg #[.int .u32 s.a, .int .u32 s.b, .int .u32 s.c, .int .u32 s.d, .int .u32 s.e], .slice AP 64 c] w
      fun e w' => e = .returned (stV5 (blk5 s p)) ∧ Below w.heap.size w w' :=
  block5_S (sched1 p 80) s hs AP c p hp w hr (fun t ht => nextV_sched p ht) (fun t ht => sched1_lt hr.1 ht)
end Go.Proofs.YtlhbijpmhokmnaaGreat
