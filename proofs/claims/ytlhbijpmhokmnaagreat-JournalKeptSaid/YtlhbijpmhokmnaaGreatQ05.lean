/-
  THE WALK OF digest's block, the first loop: the words. Conditions: the digest's numbers lie in memory; 64 bytes; a right state.
-/
import Derived.Test.YtlhbijpmhokmnaaGreatQ04
import Derived.StillTailTactics
import Derived.Deep.Cut
import Derived.Lib.ItoaWalk
import Derived.Deep.QuietTactic
namespace Go.Proofs.YtlhbijpmhokmnaaGreat
open Go.RowKit
set_option linter.unusedSimpArgs false
set_option linter.unusedVariables false

def stV (s : St) : Value := .agg #[.int .u32 s.a, .int .u32 s.b, .int .u32 s.c, .int .u32 s.d, .int .u32 s.e, .int .u32 s.f, .int .u32 s.g, .int .u32 s.h]
theorem row_upd32 {w : World} {g t n k : Nat} {a b : Nat → Nat} (h : w.rowIs g t n (fun j => .int .u32 (upd k a b j : Nat))) :
    (w.setCell ⟨g, k, none⟩ (.int .u32 (a k : Nat))).rowIs g t n (fun j => .int .u32 (upd (k + 1) a b j : Nat)) := by
  refine (h.set k _).congr fun i hi => ?_
  by_cases e : i = k
  · rw [if_pos e, e, upd_lt _ _ (by omega)]
  · rw [if_neg e]
    by_cases q : i < k
    · rw [upd_lt _ _ q, upd_lt _ _ (by omega)]
    · rw [upd_ge _ _ (by omega), upd_ge _ _ (by omega)]
theorem sg0_still (x : Nat) (hx : x < 4294967296) (w : World) : Calls Tryz.prog 116 #[.int .u32 x, .int .i64 7, .int .i64 18, .int .i64 3, .bool true] w fun e w' => e = .returned (.int .u32 (sg0 x : Nat)) ∧ w' = w :=
  (turns_any x 7 18 3 true hx (by omega) (by omega) (by omega) w).mono fun _ _ ⟨h, k⟩ => ⟨h, k.symm⟩
theorem sg1_still (x : Nat) (hx : x < 4294967296) (w : World) : Calls Tryz.prog 116 #[.int .u32 x, .int .i64 17, .int .i64 19, .int .i64 10, .bool true] w fun e w' => e = .returned (.int .u32 (sg1 x : Nat)) ∧ w' = w :=
  (turns_any x 17 19 10 true hx (by omega) (by omega) (by omega) w).mono fun _ _ ⟨h, k⟩ => ⟨h, k.symm⟩
theorem sS0_still (x : Nat) (hx : x < 4294967296) (w : World) : Calls Tryz.prog 116 #[.int .u32 x, .int .i64 2, .int .i64 13, .int .i64 22, .bool false] w fun e w' => e = .returned (.int .u32 (sS0 x : Nat)) ∧ w' = w :=
  (turns_any x 2 13 22 false hx (by omega) (by omega) (by omega) w).mono fun _ _ ⟨h, k⟩ => ⟨h, k.symm⟩
theorem sS1_still (x : Nat) (hx : x < 4294967296) (w : World) : Calls Tryz.prog 116 #[.int .u32 x, .int .i64 6, .int .i64 11, .int .i64 25, .bool false] w fun e w' => e = .returned (.int .u32 (sS1 x : Nat)) ∧ w' = w :=
  (turns_any x 6 11 25 false hx (by omega) (by omega) (by omega) w).mono fun _ _ ⟨h, k⟩ => ⟨h, k.symm⟩
theorem row_upd32v {w : World} {g t n k : Nat} {a b : Nat → Nat} {v : Int} (h : w.rowIs g t n (fun j => .int .u32 (upd k a b j : Nat))) (hv : v = (a k : Nat)) :
    (w.setCell ⟨g, k, none⟩ (.int .u32 v)).rowIs g t n (fun j => .int .u32 (upd (k + 1) a b j : Nat)) := by subst hv; exact row_upd32 h
theorem ix64 (cs : Array Value) (hn : cs.size = 64) (i : Nat) (hi : i < 64) (x : Value) (hx : cs[i]? = some x) (w : World) : (Instr.index 140 (.agg cs) (.int .i64 (i : Int))).run Tryz.prog w = .ok x w := by
  have h1 : 0 ≤ (i : Int) ∧ (i : Int) < 64 := by omega
  simp [Instr.index, run_underlying Tryz.underlying140, asIntOf, go_sem, h1, hx, show ¬ 64 ≤ i by omega]
theorem size64 : (Tryz.prog.info? 140).map (·.size) = some 64 := by kernel_rfl
theorem u32_flip (e : Nat) (h : e < 4294967296) : bits BinOp.xor IntKind.u32 (if IntKind.u32.signed = true then -1 else IntKind.u32.max) (e : Int) = ((4294967295 - e : Nat) : Int) := by
  have e1 : bits BinOp.xor IntKind.u32 ((4294967295 : Nat) : Int) (e : Int) = _ := u32_xor_nat 4294967295 e (by omega) h
  have e2 : 4294967295 ^^^ e = 4294967295 - e := by
    have h1 : (BitVec.allOnes 32 ^^^ BitVec.ofNat 32 e).toNat = 4294967295 ^^^ e := by
      rw [BitVec.toNat_xor, BitVec.toNat_allOnes, BitVec.toNat_ofNat, Nat.mod_eq_of_lt h]
    rw [← h1, BitVec.allOnes_xor, BitVec.toNat_not, BitVec.toNat_ofNat, Nat.mod_eq_of_lt h]
  rw [e2] at e1
  exact e1
theorem row8_set {w : World} {V u : Nat} {F : Nat → Value} (h : w.rowIs V u 8 F) (x0 x1 x2 x3 x4 x5 x6 x7 : Value) (G : Nat → Value) (g0 : G 0 = x0) (g1 : G 1 = x1) (g2 : G 2 = x2) (g3 : G 3 = x3) (g4 : G 4 = x4) (g5 : G 5 = x5) (g6 : G 6 = x6) (g7 : G 7 = x7) :
    ((((((((w.setCell ⟨V, 0, none⟩ x0).setCell ⟨V, 1, none⟩ x1).setCell ⟨V, 2, none⟩ x2).setCell ⟨V, 3, none⟩ x3).setCell ⟨V, 4, none⟩ x4).setCell ⟨V, 5, none⟩ x5).setCell ⟨V, 6, none⟩ x6).setCell ⟨V, 7, none⟩ x7).rowIs V u 8 G := by
  refine ((((((((h.set 0 x0).set 1 x1).set 2 x2).set 3 x3).set 4 x4).set 5 x5).set 6 x6).set 7 x7).congr fun i hi => ?_
  match i, hi with
  | 0, _ => simp [g0]
  | 1, _ => simp [g1]
  | 2, _ => simp [g2]
  | 3, _ => simp [g3]
  | 4, _ => simp [g4]
  | 5, _ => simp [g5]
  | 6, _ => simp [g6]
  | 7, _ => simp [g7]
theorem grown8 {w W : World} {V : Nat} (h : w.grownBy W (some V)) (x0 x1 x2 x3 x4 x5 x6 x7 : Value) :
    w.grownBy ((((((((W.setCell ⟨V, 0, none⟩ x0).setCell ⟨V, 1, none⟩ x1).setCell ⟨V, 2, none⟩ x2).setCell ⟨V, 3, none⟩ x3).setCell ⟨V, 4, none⟩ x4).setCell ⟨V, 5, none⟩ x5).setCell ⟨V, 6, none⟩ x6).setCell ⟨V, 7, none⟩ x7) (some V) :=
  grown_set (p := ⟨V, 7, none⟩) (grown_set (p := ⟨V, 6, none⟩) (grown_set (p := ⟨V, 5, none⟩) (grown_set (p := ⟨V, 4, none⟩) (grown_set (p := ⟨V, 3, none⟩) (grown_set (p := ⟨V, 2, none⟩) (grown_set (p := ⟨V, 1, none⟩) (grown_set (p := ⟨V, 0, none⟩) h (.inl rfl) x0) (.inl rfl) x1) (.inl rfl) x2) (.inl rfl) x3) (.inl rfl) x4) (.inl rfl) x5) (.inl rfl) x6) (.inl rfl) x7
theorem rnd_eq (k w : Nat) (v : St) : rnd k w v = ⟨(sOne k w v + sTwo v) % 4294967296, v.a, v.b, v.c, (v.d + sOne k w v) % 4294967296, v.e, v.f, v.g⟩ := by unfold rnd; rfl
theorem word_0 (s : St) : s.word 0 = s.a := rfl
theorem word_1 (s : St) : s.word 1 = s.b := rfl
theorem word_2 (s : St) : s.word 2 = s.c := rfl
theorem word_3 (s : St) : s.word 3 = s.d := rfl
theorem word_4 (s : St) : s.word 4 = s.e := rfl
theorem word_5 (s : St) : s.word 5 = s.f := rfl
theorem word_6 (s : St) : s.word 6 = s.g := rfl
theorem word_7 (s : St) : s.word 7 = s.h := rfl
theorem rnd_0 (o k w : Nat) (v : St) (ho : o = sOne k w v) : (((rnd k w v).word 0 : Nat) : Int) = ((o : Int) + ((sS0 v.a : Int) + (sMa v.a v.b v.c : Int))) % 4294967296 := by
  rw [rnd_eq, word_0]
  show (((sOne k w v + sTwo v) % 4294967296 : Nat) : Int) = _
  rw [← ho]
  unfold sTwo
  omega
theorem rnd_4 (o k w : Nat) (v : St) (ho : o = sOne k w v) : (((rnd k w v).word 4 : Nat) : Int) = ((v.d : Int) + o) % 4294967296 := by
  rw [rnd_eq, word_4]
  show (((v.d + sOne k w v) % 4294967296 : Nat) : Int) = _
  rw [← ho]
  omega
theorem rnd_1 (k w : Nat) (v : St) : (rnd k w v).word 1 = v.a := by rw [rnd_eq, word_1]
theorem rnd_2 (k w : Nat) (v : St) : (rnd k w v).word 2 = v.b := by rw [rnd_eq, word_2]
theorem rnd_3 (k w : Nat) (v : St) : (rnd k w v).word 3 = v.c := by rw [rnd_eq, word_3]
theorem rnd_5 (k w : Nat) (v : St) : (rnd k w v).word 5 = v.e := by rw [rnd_eq, word_5]
theorem rnd_6 (k w : Nat) (v : St) : (rnd k w v).word 6 = v.f := by rw [rnd_eq, word_6]
theorem rnd_7 (k w : Nat) (v : St) : (rnd k w v).word 7 = v.g := by rw [rnd_eq, word_7]
theorem rnd_set {w : World} {V u : Nat} {F : Nat → Value} (h : w.rowIs V u 8 F) (o k x : Nat) (v : St) (ho : o = sOne k x v) :
    ((((((((w.setCell ⟨V, 0, none⟩ (.int .u32 (((o : Int) + ((sS0 v.a : Int) + (sMa v.a v.b v.c : Int))) % 4294967296))).setCell ⟨V, 1, none⟩ (.int .u32 v.a)).setCell ⟨V, 2, none⟩ (.int .u32 v.b)).setCell ⟨V, 3, none⟩ (.int .u32 v.c)).setCell ⟨V, 4, none⟩ (.int .u32 (((v.d : Int) + o) % 4294967296))).setCell
      ⟨V, 5, none⟩ (.int .u32 v.e)).setCell ⟨V, 6, none⟩ (.int .u32 v.f)).setCell ⟨V, 7, none⟩ (.int .u32 v.g)).rowIs V u 8 (fun j => .int .u32 ((rnd k x v).word j : Nat)) :=
  row8_set h _ _ _ _ _ _ _ _ (fun j => .int .u32 ((rnd k x v).word j : Nat)) (by rw [rnd_0 o k x v ho]) (by rw [rnd_1]) (by rw [rnd_2]) (by rw [rnd_3]) (by rw [rnd_4 o k x v ho]) (by rw [rnd_5]) (by rw [rnd_6]) (by rw [rnd_7])
theorem size8 : (Tryz.prog.info? 139).map (·.size) = some 8 := by kernel_rfl
theorem agg8 {cs : Array Value} {z : St} (h : cs.size = 8) (hc : ∀ i, i < 8 → cs[i]? = some (.int .u32 (z.word i : Nat))) : Value.agg cs = stV z := by
  unfold stV
  congr 1
  apply Array.ext'
  apply List.ext_getElem?
  intro i
  rw [Array.getElem?_toList]
  rcases Nat.lt_or_ge i 8 with hi | hi
  · rw [hc i hi]
    match i, hi with
    | 0, _ => rfl
    | 1, _ => rfl
    | 2, _ => rfl
    | 3, _ => rfl
    | 4, _ => rfl
    | 5, _ => rfl
    | 6, _ => rfl
    | 7, _ => rfl
  · rw [Array.getElem?_eq_none (by omega), List.getElem?_eq_none (by simpa using hi)]
theorem word_lt {s : St} (h : s.Wf) (j : Nat) : s.word j < 4294967296 := by
  obtain ⟨l0, l1, l2, l3, l4, l5, l6, l7⟩ := h
  unfold St.word
  split <;> assumption
theorem or_24 (a0 a1 : Nat) (b0 : a0 < 256) (b1 : a1 < 256) : bits .or .u32 ((a0 : Int) * 16777216) ((a1 : Int) * 65536) = (a0 : Int) * 16777216 + (a1 : Int) * 65536 := by
  have h := u32_or_nat (a0 * 16777216) (a1 * 65536) (by omega) (by omega)
  rw [show a0 * 16777216 = a0 <<< 24 by rw [Nat.shiftLeft_eq], ← Nat.shiftLeft_add_eq_or_of_lt (by omega), Nat.shiftLeft_eq] at h
  simpa using h
theorem or_16 (a0 a1 a2 : Nat) (b0 : a0 < 256) (b1 : a1 < 256) (b2 : a2 < 256) : bits .or .u32 ((a0 : Int) * 16777216 + (a1 : Int) * 65536) ((a2 : Int) * 256) = (a0 : Int) * 16777216 + (a1 : Int) * 65536 + (a2 : Int) * 256 := by
  have h := u32_or_nat (a0 * 16777216 + a1 * 65536) (a2 * 256) (by omega) (by omega)
  rw [show a0 * 16777216 + a1 * 65536 = (a0 * 256 + a1) <<< 16 by rw [Nat.shiftLeft_eq]; omega, ← Nat.shiftLeft_add_eq_or_of_lt (by omega), Nat.shiftLeft_eq, show (a0 * 256 + a1) * 2 ^ 16 = a0 * 16777216 + a1 * 65536 by omega] at h
  simpa using h
theorem or_8 (a0 a1 a2 a3 : Nat) (b0 : a0 < 256) (b1 : a1 < 256) (b2 : a2 < 256) (b3 : a3 < 256) : bits .or .u32 ((a0 : Int) * 16777216 + (a1 : Int) * 65536 + (a2 : Int) * 256) (a3 : Int) = (a0 : Int) * 16777216 + (a1 : Int) * 65536 + (a2 : Int) * 256 + a3 := by
  have h := u32_or_nat (a0 * 16777216 + a1 * 65536 + a2 * 256) a3 (by omega) (by omega)
  rw [show a0 * 16777216 + a1 * 65536 + a2 * 256 = (a0 * 65536 + a1 * 256 + a2) <<< 8 by rw [Nat.shiftLeft_eq]; omega, ← Nat.shiftLeft_add_eq_or_of_lt (by omega), Nat.shiftLeft_eq, show (a0 * 65536 + a1 * 256 + a2) * 2 ^ 8 = a0 * 16777216 + a1 * 65536 + a2 * 256 by omega] at h
  simpa using h
theorem rowNew {w : World} {cs : Array Value} {g t n : Nat} {F : Nat → Value} (hg : g = w.heap.size) (hs : cs.size = n) (h : ∀ i, i < n → cs[i]? = some (F i)) : (w.alloc (.cells cs t)).rowIs g t n F := by
  subst hg
  exact ⟨cs, heap_alloc_new w _, hs, h⟩
theorem three_rows (w : World) (s : St) (S : List Nat) : Below w.heap.size w (((w.alloc (.cells #[.int .u32 s.a, .int .u32 s.b, .int .u32 s.c, .int .u32 s.d, .int .u32 s.e, .int .u32 s.f, .int .u32 s.g, .int .u32 s.h] 139)).alloc (.cells #[.int .u32 0, .int .u32 0, .int .u32 0, .int .u32 0, .int .u32 0, .int .u32 0, .int .u32 0, .int .u32 0] 139)).alloc (.cells #[.int .u32 0, .int .u32 0, .int .u32 0, .int .u32 0, .int .u32 0, .int .u32 0, .int .u32 0, .int .u32 0, .int .u32 0, .int .u32 0, .int .u32 0, .int .u32 0, .int .u32 0, .int .u32 0, .int .u32 0, .int .u32 0, .int .u32 0, .int .u32 0, .int .u32 0, .int .u32 0, .int .u32 0, .int .u32 0, .int .u32 0, .int .u32 0, .int .u32 0, .int .u32 0, .int .u32 0, .int .u32 0, .int .u32 0, .int .u32 0, .int .u32 0, .int .u32 0, .int .u32 0, .int .u32 0, .int .u32 0, .int .u32 0, .int .u32 0, .int .u32 0, .int .u32 0, .int .u32 0, .int .u32 0, .int .u32 0, .int .u32 0, .int .u32 0, .int .u32 0, .int .u32 0, .int .u32 0, .int .u32 0, .int .u32 0, .int .u32 0, .int .u32 0, .int .u32 0, .int .u32 0, .int .u32 0, .int .u32 0, .int .u32 0, .int .u32 0, .int .u32 0, .int .u32 0, .int .u32 0, .int .u32 0, .int .u32 0, .int .u32 0, .int .u32 0] 140)) ∧
    (((w.alloc (.cells #[.int .u32 s.a, .int .u32 s.b, .int .u32 s.c, .int .u32 s.d, .int .u32 s.e, .int .u32 s.f, .int .u32 s.g, .int .u32 s.h] 139)).alloc (.cells #[.int .u32 0, .int .u32 0, .int .u32 0, .int .u32 0, .int .u32 0, .int .u32 0, .int .u32 0, .int .u32 0] 139)).alloc (.cells #[.int .u32 0, .int .u32 0, .int .u32 0, .int .u32 0, .int .u32 0, .int .u32 0, .int .u32 0, .int .u32 0, .int .u32 0, .int .u32 0, .int .u32 0, .int .u32 0, .int .u32 0, .int .u32 0, .int .u32 0, .int .u32 0, .int .u32 0, .int .u32 0, .int .u32 0, .int .u32 0, .int .u32 0, .int .u32 0, .int .u32 0, .int .u32 0, .int .u32 0, .int .u32 0, .int .u32 0, .int .u32 0, .int .u32 0, .int .u32 0, .int .u32 0, .int .u32 0, .int .u32 0, .int .u32 0, .int .u32 0, .int .u32 0, .int .u32 0, .int .u32 0, .int .u32 0, .int .u32 0, .int .u32 0, .int .u32 0, .int .u32 0, .int .u32 0, .int .u32 0, .int .u32 0, .int .u32 0, .int .u32 0, .int .u32 0, .int .u32 0, .int .u32 0, .int .u32 0, .int .u32 0, .int .u32 0, .int .u32 0, .int .u32 0, .int .u32 0, .int .u32 0, .int .u32 0, .int .u32 0, .int .u32 0, .int .u32 0, .int .u32 0, .int .u32 0] 140)).rowIs w.heap.size 139 8 (fun j => .int .u32 (s.word j : Nat)) ∧
    (((w.alloc (.cells #[.int .u32 s.a, .int .u32 s.b, .int .u32 s.c, .int .u32 s.d, .int .u32 s.e, .int .u32 s.f, .int .u32 s.g, .int .u32 s.h] 139)).alloc (.cells #[.int .u32 0, .int .u32 0, .int .u32 0, .int .u32 0, .int .u32 0, .int .u32 0, .int .u32 0, .int .u32 0] 139)).alloc (.cells #[.int .u32 0, .int .u32 0, .int .u32 0, .int .u32 0, .int .u32 0, .int .u32 0, .int .u32 0, .int .u32 0, .int .u32 0, .int .u32 0, .int .u32 0, .int .u32 0, .int .u32 0, .int .u32 0, .int .u32 0, .int .u32 0, .int .u32 0, .int .u32 0, .int .u32 0, .int .u32 0, .int .u32 0, .int .u32 0, .int .u32 0, .int .u32 0, .int .u32 0, .int .u32 0, .int .u32 0, .int .u32 0, .int .u32 0, .int .u32 0, .int .u32 0, .int .u32 0, .int .u32 0, .int .u32 0, .int .u32 0, .int .u32 0, .int .u32 0, .int .u32 0, .int .u32 0, .int .u32 0, .int .u32 0, .int .u32 0, .int .u32 0, .int .u32 0, .int .u32 0, .int .u32 0, .int .u32 0, .int .u32 0, .int .u32 0, .int .u32 0, .int .u32 0, .int .u32 0, .int .u32 0, .int .u32 0, .int .u32 0, .int .u32 0, .int .u32 0, .int .u32 0, .int .u32 0, .int .u32 0, .int .u32 0, .int .u32 0, .int .u32 0, .int .u32 0] 140)).rowIs (w.heap.size + 1) 139 8 (fun j => .int .u32 0) ∧
    (((w.alloc (.cells #[.int .u32 s.a, .int .u32 s.b, .int .u32 s.c, .int .u32 s.d, .int .u32 s.e, .int .u32 s.f, .int .u32 s.g, .int .u32 s.h] 139)).alloc (.cells #[.int .u32 0, .int .u32 0, .int .u32 0, .int .u32 0, .int .u32 0, .int .u32 0, .int .u32 0, .int .u32 0] 139)).alloc (.cells #[.int .u32 0, .int .u32 0, .int .u32 0, .int .u32 0, .int .u32 0, .int .u32 0, .int .u32 0, .int .u32 0, .int .u32 0, .int .u32 0, .int .u32 0, .int .u32 0, .int .u32 0, .int .u32 0, .int .u32 0, .int .u32 0, .int .u32 0, .int .u32 0, .int .u32 0, .int .u32 0, .int .u32 0, .int .u32 0, .int .u32 0, .int .u32 0, .int .u32 0, .int .u32 0, .int .u32 0, .int .u32 0, .int .u32 0, .int .u32 0, .int .u32 0, .int .u32 0, .int .u32 0, .int .u32 0, .int .u32 0, .int .u32 0, .int .u32 0, .int .u32 0, .int .u32 0, .int .u32 0, .int .u32 0, .int .u32 0, .int .u32 0, .int .u32 0, .int .u32 0, .int .u32 0, .int .u32 0, .int .u32 0, .int .u32 0, .int .u32 0, .int .u32 0, .int .u32 0, .int .u32 0, .int .u32 0, .int .u32 0, .int .u32 0, .int .u32 0, .int .u32 0, .int .u32 0, .int .u32 0, .int .u32 0, .int .u32 0, .int .u32 0, .int .u32 0] 140)).rowIs (w.heap.size + 1 + 1) 140 64 (fun j => .int .u32 (upd 0 (nth S) (fun _ => 0) j : Nat)) ∧
    (((w.alloc (.cells #[.int .u32 s.a, .int .u32 s.b, .int .u32 s.c, .int .u32 s.d, .int .u32 s.e, .int .u32 s.f, .int .u32 s.g, .int .u32 s.h] 139)).alloc (.cells #[.int .u32 0, .int .u32 0, .int .u32 0, .int .u32 0, .int .u32 0, .int .u32 0, .int .u32 0, .int .u32 0] 139)).alloc (.cells #[.int .u32 0, .int .u32 0, .int .u32 0, .int .u32 0, .int .u32 0, .int .u32 0, .int .u32 0, .int .u32 0, .int .u32 0, .int .u32 0, .int .u32 0, .int .u32 0, .int .u32 0, .int .u32 0, .int .u32 0, .int .u32 0, .int .u32 0, .int .u32 0, .int .u32 0, .int .u32 0, .int .u32 0, .int .u32 0, .int .u32 0, .int .u32 0, .int .u32 0, .int .u32 0, .int .u32 0, .int .u32 0, .int .u32 0, .int .u32 0, .int .u32 0, .int .u32 0, .int .u32 0, .int .u32 0, .int .u32 0, .int .u32 0, .int .u32 0, .int .u32 0, .int .u32 0, .int .u32 0, .int .u32 0, .int .u32 0, .int .u32 0, .int .u32 0, .int .u32 0, .int .u32 0, .int .u32 0, .int .u32 0, .int .u32 0, .int .u32 0, .int .u32 0, .int .u32 0, .int .u32 0, .int .u32 0, .int .u32 0, .int .u32 0, .int .u32 0, .int .u32 0, .int .u32 0, .int .u32 0, .int .u32 0, .int .u32 0, .int .u32 0, .int .u32 0] 140)).heap.size = w.heap.size + 3 := by
  refine ⟨(((Below.refl _ _).alloc (Nat.le_refl _) _).alloc (by simp) _).alloc (by simp; omega) _, ?_, ?_, ?_, by simp⟩
  · refine ((rowNew rfl rfl fun i hi => ?_).alloc _).alloc _
    match i, hi with
    | 0, _ => rfl
    | 1, _ => rfl
    | 2, _ => rfl
    | 3, _ => rfl
    | 4, _ => rfl
    | 5, _ => rfl
    | 6, _ => rfl
    | 7, _ => rfl
  · refine (rowNew (by simp) rfl fun i hi => ?_).alloc _
    match i, hi with
    | 0, _ => rfl
    | 1, _ => rfl
    | 2, _ => rfl
    | 3, _ => rfl
    | 4, _ => rfl
    | 5, _ => rfl
    | 6, _ => rfl
    | 7, _ => rfl
  · refine rowNew (by simp) rfl fun i hi => ?_
    have e : (#[.int .u32 0, .int .u32 0, .int .u32 0, .int .u32 0, .int .u32 0, .int .u32 0, .int .u32 0, .int .u32 0, .int .u32 0, .int .u32 0, .int .u32 0, .int .u32 0, .int .u32 0, .int .u32 0, .int .u32 0, .int .u32 0, .int .u32 0, .int .u32 0, .int .u32 0, .int .u32 0, .int .u32 0, .int .u32 0, .int .u32 0, .int .u32 0, .int .u32 0, .int .u32 0, .int .u32 0, .int .u32 0, .int .u32 0, .int .u32 0, .int .u32 0, .int .u32 0, .int .u32 0, .int .u32 0, .int .u32 0, .int .u32 0, .int .u32 0, .int .u32 0, .int .u32 0, .int .u32 0, .int .u32 0, .int .u32 0, .int .u32 0, .int .u32 0, .int .u32 0, .int .u32 0, .int .u32 0, .int .u32 0, .int .u32 0, .int .u32 0, .int .u32 0, .int .u32 0, .int .u32 0, .int .u32 0, .int .u32 0, .int .u32 0, .int .u32 0, .int .u32 0, .int .u32 0, .int .u32 0, .int .u32 0, .int .u32 0, .int .u32 0, .int .u32 0] : Array Value) = ((List.range 64).map fun _ => Value.int .u32 0).toArray := by kernel_rfl
    rw [e]
    simp [hi, upd_zero]
set_option maxRecDepth 100000 in
set_option maxHeartbeats 4000000 in
theorem block_S (S : List Nat) (g : Nat) (s : St) (hs : s.Wf) (AP : Option Addr) (c : Nat) (p : List Nat) (hp : p.length = 64) (w : World) (hr : Rd w AP p)
    (hSS : ∀ t, t < 64 → nth S t = nextW p S t) (hSb : ∀ t, t < 64 → nth S t < 4294967296) (hk : ∀ j, j < 64 → w.cell? ⟨g, 9 + j, none⟩ = some (.int .u32 (nth kL j : Nat))) :
    Calls Tryz.prog 108 #[.pointer (some ⟨g, 0, none⟩), .agg #[.int .u32 s.a, .int .u32 s.b, .int .u32 s.c, .int .u32 s.d, .int .u32 s.e, .int .u32 s.f, .int .u32 s.g, .int .u32 s.h], .slice AP 64 c] w
      fun e w' => e = .returned (stV (s.add (rounds S s 64))) ∧ Below w.heap.size w w' := by
  obtain ⟨gp, op, rfl, hgp, hcp⟩ := hr.2 (by intro e; rw [e] at hp; simp at hp)
  have hpb := hr.1
  have HK := Lib.hid hk
  have hgl : g < w.heap.size := block_lt_of_cell (hk 0 (by omega))
  have HSS := Lib.hid hSS
  have HSB := Lib.hid hSb
  have HP := Lib.hid hcp
  have HS := Lib.hid hs
  have HPB := Lib.hid hpb
  clear hk hcp hs hr hpb hSS hSb
  go_enter Tryz.func108, Tryz.ntmps108
  go_wp2_with fail
  obtain ⟨hb0, hr4, hr6, hr7, hz0⟩ := three_rows w s S
  generalize ((w.alloc (.cells #[.int .u32 s.a, .int .u32 s.b, .int .u32 s.c, .int .u32 s.d, .int .u32 s.e, .int .u32 s.f, .int .u32 s.g, .int .u32 s.h] 139)).alloc (.cells #[.int .u32 0, .int .u32 0, .int .u32 0, .int .u32 0, .int .u32 0, .int .u32 0, .int .u32 0, .int .u32 0] 139)).alloc (.cells #[.int .u32 0, .int .u32 0, .int .u32 0, .int .u32 0, .int .u32 0, .int .u32 0, .int .u32 0, .int .u32 0, .int .u32 0, .int .u32 0, .int .u32 0, .int .u32 0, .int .u32 0, .int .u32 0, .int .u32 0, .int .u32 0, .int .u32 0, .int .u32 0, .int .u32 0, .int .u32 0, .int .u32 0, .int .u32 0, .int .u32 0, .int .u32 0, .int .u32 0, .int .u32 0, .int .u32 0, .int .u32 0, .int .u32 0, .int .u32 0, .int .u32 0, .int .u32 0, .int .u32 0, .int .u32 0, .int .u32 0, .int .u32 0, .int .u32 0, .int .u32 0, .int .u32 0, .int .u32 0, .int .u32 0, .int .u32 0, .int .u32 0, .int .u32 0, .int .u32 0, .int .u32 0, .int .u32 0, .int .u32 0, .int .u32 0, .int .u32 0, .int .u32 0, .int .u32 0, .int .u32 0, .int .u32 0, .int .u32 0, .int .u32 0, .int .u32 0, .int .u32 0, .int .u32 0, .int .u32 0, .int .u32 0, .int .u32 0, .int .u32 0, .int .u32 0] 140) = W at *
  have HB0 := Lib.hid hb0
  have H4 := Lib.hid hr4
  have H6 := Lib.hid hr6
  clear hb0 hr4 hr6
  go_loopw [21] (fun i wr => ∃ t : Nat, t ≤ 64 ∧ i = .int .i64 t ∧ wr.rowIs (w.heap.size + 1 + 1) 140 64 (fun j => .int .u32 (upd t (nth S) (fun _ => 0) j : Nat)) ∧ W.grownBy wr (some (w.heap.size + 1 + 1))) (fun i _ => 64 - (intOf i).toNat)
  case atStart => exact ⟨0, by omega, rfl, hr7, grown_refl _ _⟩
  case round =>
    clear hr7
    obtain ⟨t, ht, rfl, hr7, hg⟩ := hrel
    have H7 := Lib.hid hr7
    have HG := Lib.hid hg
    clear hr7 hg
    have hB : Below w.heap.size w wr := below_of_grown HB0.out HG.out (by omega) (by omega)
    have HB := Lib.hid hB
    clear hB
    by_cases t16 : t < 16
    · have c0 := (HB.out.cell (p := ⟨gp, op + 4 * t, none⟩) hgp).trans (HP.out (4 * t) (by omega))
      have c1 := (HB.out.cell (p := ⟨gp, op + (4 * t + 1), none⟩) hgp).trans (HP.out (4 * t + 1) (by omega))
      have c2 := (HB.out.cell (p := ⟨gp, op + (4 * t + 2), none⟩) hgp).trans (HP.out (4 * t + 2) (by omega))
      have c3 := (HB.out.cell (p := ⟨gp, op + (4 * t + 3), none⟩) hgp).trans (HP.out (4 * t + 3) (by omega))
      have b0 := nth_lt HPB.out (4 * t)
      have b1 := nth_lt HPB.out (4 * t + 1)
      have b2 := nth_lt HPB.out (4 * t + 2)
      have b3 := nth_lt HPB.out (4 * t + 3)
      have hv : nth S t = nth p (4 * t) * 16777216 + nth p (4 * t + 1) * 65536 + nth p (4 * t + 2) * 256 + nth p (4 * t + 3) := by
        rw [HSS.out t (by omega), nextW, if_pos t16]
        unfold be4
        rfl
      generalize nth p (4 * t) = a0 at *
      generalize nth p (4 * t + 1) = a1 at *
      generalize nth p (4 * t + 2) = a2 at *
      generalize nth p (4 * t + 3) = a3 at *
      have x7 := H7.out.frozen t
      have y7 := H7.out.cell (i := t) (by omega)
      have C0 := Lib.hid c0
      have C1 := Lib.hid c1
      have C2 := Lib.hid c2
      have C3 := Lib.hid c3
      have X7 := Lib.hid x7
      have Y7 := Lib.hid y7
      have HZ := Lib.hid hz0
      have HPL := Lib.hid hp
      clear c0 c1 c2 c3 x7 y7 hz0 hp
      have HV := Lib.hid hv
      clear hv
      go_upto_region 6 with fail
      have k0 : (4 * (t : Int)).toNat = 4 * t := by omega
      have k1 : (4 * (t : Int) + 1).toNat = 4 * t + 1 := by omega
      have k2 : (4 * (t : Int) + 2).toNat = 4 * t + 2 := by omega
      have k3 : (4 * (t : Int) + 3).toNat = 4 * t + 3 := by omega
      have m0 : 4 * (t : Int) < 64 := by omega
      have m1 : 4 * (t : Int) + 1 < 64 := by omega
      have m2 : 4 * (t : Int) + 2 < 64 := by omega
      have m3 : 4 * (t : Int) + 3 < 64 := by omega
      have m4 : (t : Int) < 64 := by omega
      have n0 : 0 ≤ 4 * (t : Int) := by omega
      have n1 : 0 ≤ 4 * (t : Int) + 1 := by omega
      have n2 : 0 ≤ 4 * (t : Int) + 2 := by omega
      have n3 : 0 ≤ 4 * (t : Int) + 3 := by omega
      have e0 : IntKind.i64.wrap (4 * (t : Int)) = 4 * t := by simp [IntKind.wrap, IntKind.signed, IntKind.bits]; omega
      have e1 : IntKind.i64.wrap (4 * (t : Int) + 1) = 4 * t + 1 := by simp [IntKind.wrap, IntKind.signed, IntKind.bits]; omega
      have e2 : IntKind.i64.wrap (4 * (t : Int) + 2) = 4 * t + 2 := by simp [IntKind.wrap, IntKind.signed, IntKind.bits]; omega
      have e3 : IntKind.i64.wrap (4 * (t : Int) + 3) = 4 * t + 3 := by simp [IntKind.wrap, IntKind.signed, IntKind.bits]; omega
      have s0 : IntKind.u32.wrap ((a0 : Int) * 16777216) = a0 * 16777216 := by rw [IntKind.wrap_u32]; omega
      have s1 : IntKind.u32.wrap ((a1 : Int) * 65536) = a1 * 65536 := by rw [IntKind.wrap_u32]; omega
      have s2 : IntKind.u32.wrap ((a2 : Int) * 256) = a2 * 256 := by rw [IntKind.wrap_u32]; omega
      have u0 : IntKind.u32.wrap (a0 : Int) = a0 := by rw [IntKind.wrap_u32]; omega
      have u1 : IntKind.u32.wrap (a1 : Int) = a1 := by rw [IntKind.wrap_u32]; omega
      have u2 : IntKind.u32.wrap (a2 : Int) = a2 := by rw [IntKind.wrap_u32]; omega
      have u3 : IntKind.u32.wrap (a3 : Int) = a3 := by rw [IntKind.wrap_u32]; omega
      have o1 := or_24 a0 a1 b0 b1
      have o2 := or_16 a0 a1 a2 b0 b1 b2
      have o3 := or_8 a0 a1 a2 a3 b0 b1 b2 b3
      have c0 := C0.out
      have c1 := C1.out
      have c2 := C2.out
      have c3 := C3.out
      have x7 := X7.out
      have y7 := Y7.out
      refine wp_region_still_tail 35 (by kernel_rfl) (by kernel_rfl) ?_
      simp only [List.take_succ_cons, List.take_zero, List.drop_succ_cons, List.drop_zero]
      repeat still_step
      try refine wpStill_nil ?_
      change wpList _ _ _ _ _ wr.drew
      have ev : (a0 : Int) * 16777216 + (a1 : Int) * 65536 + (a2 : Int) * 256 + a3 = (nth S t : Nat) := by rw [HV.out]; omega
      have HE := Lib.hid ev
      clear ev C0 C1 C2 C3 X7 Y7 c0 c1 c2 c3
      go_wp2
      go_roundw
      case rel =>
        refine ⟨t + 1, by omega, by go_num, ?_, ?_⟩
        · rw [HE.out]
          exact row_upd32 H7.out.drew
        · exact grown_set (grown_drew HG.out) (.inl rfl) _
      case measure => simp [intOf]; omega
    · by_cases t64 : t < 64
      · have c2 := H7.out.cell (i := t - 2) (by omega)
        have c7 := H7.out.cell (i := t - 7) (by omega)
        have c15 := H7.out.cell (i := t - 15) (by omega)
        have c16 := H7.out.cell (i := t - 16) (by omega)
        rw [upd_lt _ _ (by omega)] at c2 c7 c15 c16
        have b2 := HSB.out (t - 2) (by omega)
        have b7 := HSB.out (t - 7) (by omega)
        have b15 := HSB.out (t - 15) (by omega)
        have b16 := HSB.out (t - 16) (by omega)
        have hv : nth S t = (sg1 (nth S (t - 2)) + nth S (t - 7) + sg0 (nth S (t - 15)) + nth S (t - 16)) % 4294967296 := by
          rw [HSS.out t (by omega), nextW, if_neg t16]
        generalize nth S (t - 2) = a2 at *
        generalize nth S (t - 7) = a7 at *
        generalize nth S (t - 15) = a15 at *
        generalize nth S (t - 16) = a16 at *
        have l1 := sg1_lt b2
        have l0 := sg0_lt b15
        have d1 : rr a2 17 ^^^ rr a2 19 ^^^ a2 / 2 ^ 10 = sg1 a2 := rfl
        have d0 : rr a15 7 ^^^ rr a15 18 ^^^ a15 / 2 ^ 3 = sg0 a15 := rfl
        have HV := Lib.hid hv
        have C2 := Lib.hid c2
        have C7 := Lib.hid c7
        have C15 := Lib.hid c15
        have C16 := Lib.hid c16
        have D1 := Lib.hid d1
        have D0 := Lib.hid d0
        have x7 := H7.out.frozen t
        have y7 := H7.out.cell (i := t) (by omega)
        have X7 := Lib.hid x7
        have Y7 := Lib.hid y7
        clear hv c2 c7 c15 c16 d1 d0 x7 y7
        go_upto_region 7 with fail
        have e2 : IntKind.i64.wrap ((t : Int) - 2) = ((t - 2 : Nat) : Int) := by simp [IntKind.wrap, IntKind.signed, IntKind.bits]; omega
        have e7 : IntKind.i64.wrap ((t : Int) - 7) = ((t - 7 : Nat) : Int) := by simp [IntKind.wrap, IntKind.signed, IntKind.bits]; omega
        have e15 : IntKind.i64.wrap ((t : Int) - 15) = ((t - 15 : Nat) : Int) := by simp [IntKind.wrap, IntKind.signed, IntKind.bits]; omega
        have e16 : IntKind.i64.wrap ((t : Int) - 16) = ((t - 16 : Nat) : Int) := by simp [IntKind.wrap, IntKind.signed, IntKind.bits]; omega
        have m2 : ((t - 2 : Nat) : Int) < 64 := by omega
        have m7 : ((t - 7 : Nat) : Int) < 64 := by omega
        have m15 : ((t - 15 : Nat) : Int) < 64 := by omega
        have m16 : ((t - 16 : Nat) : Int) < 64 := by omega
        have m4 : (t : Int) < 64 := by omega
        have c2 := C2.out
        have c7 := C7.out
        have c15 := C15.out
        have c16 := C16.out
        have x7 := X7.out
        have y7 := Y7.out
        refine wp_region_still_tail 23 (by kernel_rfl) (by kernel_rfl) ?_
        simp only [List.take_succ_cons, List.take_zero, List.drop_succ_cons, List.drop_zero]
        repeat still_step
        still_call (sg1_still a2 b2 _)
        repeat still_step
        still_call (sg0_still a15 b15 _)
        repeat still_step
        try refine wpStill_nil ?_
        change wpList _ _ _ _ _ wr.drew
        clear C2 C7 C15 C16 X7 Y7 c2 c7 c15 c16 D1 D0
        go_wp2
        go_roundw
        case rel =>
          refine ⟨t + 1, by omega, by go_num, ?_, ?_⟩
          · exact row_upd32v H7.out.drew (by rw [HV.out]; omega)
          · exact grown_set (grown_drew HG.out) (.inl rfl) _
        case measure => simp [intOf]; omega
      · obtain rfl : t = 64 := by omega
        have h7' := H7.out.congr (g := fun j => .int .u32 (nth S j : Nat)) (fun j hj => by rw [upd_lt _ _ hj])
        have h4' := H4.out.of_block (HG.out.block w.heap.size (by omega) (by intro e; injection e with e; omega))
        have h6' := H6.out.of_block (HG.out.block (w.heap.size + 1) (by omega) (by intro e; injection e with e; omega))
        have hsz : w.heap.size + 3 ≤ wr.heap.size := by have := HG.out.size; omega
        have y0 := h4'.cell (i := 0) (by omega)
        have y1 := h4'.cell (i := 1) (by omega)
        have y2 := h4'.cell (i := 2) (by omega)
        have y3 := h4'.cell (i := 3) (by omega)
        have y4 := h4'.cell (i := 4) (by omega)
        have y5 := h4'.cell (i := 5) (by omega)
        have y6 := h4'.cell (i := 6) (by omega)
        have y7 := h4'.cell (i := 7) (by omega)
        have H7' := Lib.hid h7'
        have H4' := Lib.hid h4'
        have H6' := Lib.hid h6'
        have HSZ := Lib.hid hsz
        clear H7 HG H4 H6 h7' h4' h6' hsz t64 t16 ht HB0 hz0
        go_upto_region 10 with fail
        have hrV : (wr.alloc (.cells #[.int .u32 (s.word 0 : Nat), .int .u32 (s.word 1 : Nat), .int .u32 (s.word 2 : Nat), .int .u32 (s.word 3 : Nat), .int .u32 (s.word 4 : Nat), .int .u32 (s.word 5 : Nat), .int .u32 (s.word 6 : Nat), .int .u32 (s.word 7 : Nat)] 139)).rowIs wr.heap.size 139 8 (fun j => .int .u32 (s.word j : Nat)) :=
          rowNew rfl rfl fun i hi => by
            match i, hi with
            | 0, _ => rfl
            | 1, _ => rfl
            | 2, _ => rfl
            | 3, _ => rfl
            | 4, _ => rfl
            | 5, _ => rfl
            | 6, _ => rfl
            | 7, _ => rfl
        have hb2 := HB.out.alloc HB.out.size (.cells #[.int .u32 (s.word 0 : Nat), .int .u32 (s.word 1 : Nat), .int .u32 (s.word 2 : Nat), .int .u32 (s.word 3 : Nat), .int .u32 (s.word 4 : Nat), .int .u32 (s.word 5 : Nat), .int .u32 (s.word 6 : Nat), .int .u32 (s.word 7 : Nat)] 139)
        have h72 := H7'.out.alloc (.cells #[.int .u32 (s.word 0 : Nat), .int .u32 (s.word 1 : Nat), .int .u32 (s.word 2 : Nat), .int .u32 (s.word 3 : Nat), .int .u32 (s.word 4 : Nat), .int .u32 (s.word 5 : Nat), .int .u32 (s.word 6 : Nat), .int .u32 (s.word 7 : Nat)] 139)
        have h42 := H4'.out.alloc (.cells #[.int .u32 (s.word 0 : Nat), .int .u32 (s.word 1 : Nat), .int .u32 (s.word 2 : Nat), .int .u32 (s.word 3 : Nat), .int .u32 (s.word 4 : Nat), .int .u32 (s.word 5 : Nat), .int .u32 (s.word 6 : Nat), .int .u32 (s.word 7 : Nat)] 139)
        have h62 := H6'.out.alloc (.cells #[.int .u32 (s.word 0 : Nat), .int .u32 (s.word 1 : Nat), .int .u32 (s.word 2 : Nat), .int .u32 (s.word 3 : Nat), .int .u32 (s.word 4 : Nat), .int .u32 (s.word 5 : Nat), .int .u32 (s.word 6 : Nat), .int .u32 (s.word 7 : Nat)] 139)
        have hXz : (wr.alloc (.cells #[.int .u32 (s.word 0 : Nat), .int .u32 (s.word 1 : Nat), .int .u32 (s.word 2 : Nat), .int .u32 (s.word 3 : Nat), .int .u32 (s.word 4 : Nat), .int .u32 (s.word 5 : Nat), .int .u32 (s.word 6 : Nat), .int .u32 (s.word 7 : Nat)] 139)).heap.size = wr.heap.size + 1 := by simp
        generalize wr.alloc (.cells #[.int .u32 (s.word 0 : Nat), .int .u32 (s.word 1 : Nat), .int .u32 (s.word 2 : Nat), .int .u32 (s.word 3 : Nat), .int .u32 (s.word 4 : Nat), .int .u32 (s.word 5 : Nat), .int .u32 (s.word 6 : Nat), .int .u32 (s.word 7 : Nat)] 139) = X at *
        obtain ⟨cs, hcs, hcn, hci⟩ := h72
        have CS := Lib.hid hcs
        have CN := Lib.hid hcn
        have CI := Lib.hid hci
        have HV := Lib.hid hrV
        have HB2 := Lib.hid hb2
        have H42 := Lib.hid h42
        have H62 := Lib.hid h62
        have HXZ := Lib.hid hXz
        clear hcs hcn hci hrV hb2 h42 h62 hXz y0 y1 y2 y3 y4 y5 y6 y7 H4' H6' H7'
        go_wp2_with (refine wpList_load_row rfl 140 (.tmp 7) rfl (w.heap.size + 1 + 1) rfl 140 cs (0, 0) _ CS.out Tryz.underlying140 rfl (by rw [CN.out]; exact size64) ?_)
        generalize hVn : wr.heap.size = V at *
        go_loopw [87] (fun i wq => ∃ (t : Nat) (v : St), t ≤ 64 ∧ i = .int .i64 t ∧ v = rounds S s t ∧ wq.rowIs V 139 8 (fun j => .int .u32 (v.word j : Nat)) ∧ X.grownBy wq (some V)) (fun i _ => 64 - (intOf i).toNat)
        case atStart => exact ⟨0, s, by omega, rfl, rfl, HV.out, grown_refl _ _⟩
        case round =>
          obtain ⟨t, v, ht, rfl, hv, hrv, hg⟩ := hrel
          have HV2 := Lib.hid hrv
          have HG2 := Lib.hid hg
          have HVV := Lib.hid hv
          have hw : v.Wf := by rw [hv]; exact rounds_wf S HS.out t
          clear hrv hg hv
          by_cases t64 : t < 64
          · obtain ⟨l0, l1, l2, l3, l4, l5, l6, l7⟩ := hw
            have z0 : wr.cell? ⟨V, 0, none⟩ = some (.int .u32 v.a) := HV2.out.cell (i := 0) (by omega)
            have z1 : wr.cell? ⟨V, 1, none⟩ = some (.int .u32 v.b) := HV2.out.cell (i := 1) (by omega)
            have z2 : wr.cell? ⟨V, 2, none⟩ = some (.int .u32 v.c) := HV2.out.cell (i := 2) (by omega)
            have z3 : wr.cell? ⟨V, 3, none⟩ = some (.int .u32 v.d) := HV2.out.cell (i := 3) (by omega)
            have z4 : wr.cell? ⟨V, 4, none⟩ = some (.int .u32 v.e) := HV2.out.cell (i := 4) (by omega)
            have z5 : wr.cell? ⟨V, 5, none⟩ = some (.int .u32 v.f) := HV2.out.cell (i := 5) (by omega)
            have z6 : wr.cell? ⟨V, 6, none⟩ = some (.int .u32 v.g) := HV2.out.cell (i := 6) (by omega)
            have z7 : wr.cell? ⟨V, 7, none⟩ = some (.int .u32 v.h) := HV2.out.cell (i := 7) (by omega)
            have hix := ix64 cs CN.out t t64 _ (CI.out t t64)
            go_upto_region 13 with fail
            go_quiet (fail)
            go_upto_region 14 with fail
            have hVq := rowIs_drewN' HV2.out nq
            have hGq := grown_drewN HG2.out nq
            clear z0 z1 z2 z3 z4 z5 z6 z7 HV2 HG2
            generalize wr.drewN nq = Y at *
            have z3 : Y.cell? ⟨V, 3, none⟩ = some (.int .u32 v.d) := hVq.cell (i := 3) (by omega)
            have z7 : Y.cell? ⟨V, 7, none⟩ = some (.int .u32 v.h) := hVq.cell (i := 7) (by omega)
            have hbY : Below w.heap.size w Y := below_of_grown HB2.out hGq (by have := HSZ.out; have := HXZ.out; omega) (by have := HSZ.out; omega)
            have hkt : Y.cell? ⟨g, 9 + t, none⟩ = some (.int .u32 (nth kL t : Nat)) := (hbY.cell (p := ⟨g, 9 + t, none⟩) hgl).trans (HK.out t t64)
            have HVQ := Lib.hid hVq
            have HGQ := Lib.hid hGq
            have HBY := Lib.hid hbY
            clear hVq hGq hbY
            have t64' : (t : Int) < 64 := by omega
            have lk := kL_lt t64
            have lS := HSB.out t t64
            have q1 : bits .and .u32 (v.e : Int) (v.f : Int) = ((v.e &&& v.f : Nat) : Int) := u32_and_nat _ _ l4 l5
            have q2 := u32_flip v.e l4
            have q3 : bits .and .u32 ((4294967295 - v.e : Nat) : Int) (v.g : Int) = (((4294967295 - v.e) &&& v.g : Nat) : Int) := u32_and_nat _ _ (by omega) l6
            have q4 : bits .xor .u32 ((v.e &&& v.f : Nat) : Int) (((4294967295 - v.e) &&& v.g : Nat) : Int) = ((sCh v.e v.f v.g : Nat) : Int) := u32_xor_nat _ _ (and_lt32 l4) (Nat.lt_of_le_of_lt Nat.and_le_right l6)
            refine wp_region_still_lit (by kernel_rfl) (by kernel_rfl) ?_
            repeat still_step
            still_call (sS1_still v.e l4 _)
            repeat still_step
            refine wpStill_nil ?_
            go_upto_region 15 with fail
            go_name_slot 18 one hone
            obtain ⟨o, ho⟩ : ∃ o, o = sOne (nth kL t) (nth S t) v := ⟨_, rfl⟩
            have e1 : one = (o : Int) := by
              rw [← hone, ho]
              simp only [IntKind.wrap_u32, sOne]
              omega
            have lo : o < 4294967296 := by rw [ho]; unfold sOne; omega
            subst e1
            have HO := Lib.hid ho
            clear hone ho q1 q2 q3 q4 hkt z7 z3 hix lk lS
            change Code.wp _ _ _ _ Y.drew
            have hVq := HVQ.out.drew
            have hGq := grown_drew HGQ.out
            clear HVQ HGQ HBY
            generalize Y.drew = Z at *
            have z0 : Z.cell? ⟨V, 0, none⟩ = some (.int .u32 v.a) := hVq.cell (i := 0) (by omega)
            have z1 : Z.cell? ⟨V, 1, none⟩ = some (.int .u32 v.b) := hVq.cell (i := 1) (by omega)
            have z2 : Z.cell? ⟨V, 2, none⟩ = some (.int .u32 v.c) := hVq.cell (i := 2) (by omega)
            have z3 : Z.cell? ⟨V, 3, none⟩ = some (.int .u32 v.d) := hVq.cell (i := 3) (by omega)
            have z4 : Z.cell? ⟨V, 4, none⟩ = some (.int .u32 v.e) := hVq.cell (i := 4) (by omega)
            have z5 : Z.cell? ⟨V, 5, none⟩ = some (.int .u32 v.f) := hVq.cell (i := 5) (by omega)
            have z6 : Z.cell? ⟨V, 6, none⟩ = some (.int .u32 v.g) := hVq.cell (i := 6) (by omega)
            have z7 : Z.cell? ⟨V, 7, none⟩ = some (.int .u32 v.h) := hVq.cell (i := 7) (by omega)
            have f0 := hVq.frozen 0
            have f1 := hVq.frozen 1
            have f2 := hVq.frozen 2
            have f3 := hVq.frozen 3
            have f4 := hVq.frozen 4
            have f5 := hVq.frozen 5
            have f6 := hVq.frozen 6
            have f7 := hVq.frozen 7
            have q1 : bits .and .u32 (v.a : Int) (v.b : Int) = ((v.a &&& v.b : Nat) : Int) := u32_and_nat _ _ l0 l1
            have q2 : bits .and .u32 (v.a : Int) (v.c : Int) = ((v.a &&& v.c : Nat) : Int) := u32_and_nat _ _ l0 l2
            have q3 : bits .and .u32 (v.b : Int) (v.c : Int) = ((v.b &&& v.c : Nat) : Int) := u32_and_nat _ _ l1 l2
            have q4 : bits .xor .u32 ((v.a &&& v.b : Nat) : Int) ((v.a &&& v.c : Nat) : Int) = (((v.a &&& v.b) ^^^ (v.a &&& v.c) : Nat) : Int) := u32_xor_nat _ _ (and_lt32 l0) (and_lt32 l0)
            have q5 : bits .xor .u32 (((v.a &&& v.b) ^^^ (v.a &&& v.c) : Nat) : Int) ((v.b &&& v.c : Nat) : Int) = ((sMa v.a v.b v.c : Nat) : Int) := u32_xor_nat _ _ (xor_lt32 (and_lt32 l0) (and_lt32 l0)) (and_lt32 l1)
            have HVQ := Lib.hid hVq
            have HGQ := Lib.hid hGq
            clear hVq hGq
            go_wp2_with fail
            refine (sS0_still v.a l0 Z).mono ?_
            rintro e w' ⟨rfl, rfl⟩
            go_wp2
            go_roundw
            case rel =>
              refine ⟨t + 1, rnd (nth kL t) (nth S t) v, by omega, by go_num, by rw [HVV.out]; rfl, ?_, grown8 HGQ.out _ _ _ _ _ _ _ _⟩
              exact rnd_set HVQ.out o _ _ v HO.out
            case measure => simp [intOf]; omega
          · obtain rfl : t = 64 := by omega
            have hr4 := H42.out.of_block (HG2.out.block w.heap.size (by have := HSZ.out; have := HXZ.out; omega) (by have := HSZ.out; intro e; injection e with e; omega))
            have hr6 := H62.out.of_block (HG2.out.block (w.heap.size + 1) (by have := HSZ.out; have := HXZ.out; omega) (by have := HSZ.out; intro e; injection e with e; omega))
            have hbq : Below w.heap.size w wr := below_of_grown HB2.out HG2.out (by have := HSZ.out; have := HXZ.out; omega) (by have := HSZ.out; omega)
            have HR4 := Lib.hid hr4
            have HR6 := Lib.hid hr6
            have HBQ := Lib.hid hbq
            have HSZ2 : Hid (w.heap.size + 3 ≤ V ∧ V < wr.heap.size) := by have := HSZ.out; have := HXZ.out; have := HG2.out.size; exact ⟨by omega, by omega⟩
            clear hr4 hr6 hbq t64 ht HG2
            go_wp2_with fail
            generalize hwq : wr = Q at *
            clear hwq
            go_loopw [155] (fun i wq => ∃ (i' : Nat), i' ≤ 8 ∧ i = .int .i64 i' ∧ wq.rowIs V 139 8 (fun j => .int .u32 (upd i' (fun j => (s.word j + v.word j) % 4294967296) v.word j : Nat)) ∧ Q.grownBy wq (some V)) (fun i _ => 8 - (intOf i).toNat)
            case atStart => exact ⟨0, by omega, rfl, HV2.out.congr (fun j hj => by rw [upd_zero]), grown_refl _ _⟩
            case round =>
              obtain ⟨i, hi, rfl, hrv, hg⟩ := hrel
              have HV3 := Lib.hid hrv
              have HG3 := Lib.hid hg
              clear hrv hg
              by_cases i8 : i < 8
              · have c1 := HV3.out.cell i8
                rw [upd_ge _ _ (Nat.le_refl _)] at c1
                have x1 := HV3.out.frozen i
                have c2 := (HR4.out.of_block (HG3.out.block w.heap.size (by have := HSZ2.out; omega) (by have := HSZ2.out; intro e; injection e with e; omega))).cell i8
                have i8' : (i : Int) < 8 := by omega
                have p1 := word_lt HS.out i
                have p2 := word_lt hw i
                go_upto_region 21 with fail
                refine wp_region_still_tail 8 (by kernel_rfl) (by kernel_rfl) ?_
                simp only [List.take_succ_cons, List.take_zero, List.drop_succ_cons, List.drop_zero]
                repeat still_step
                try refine wpStill_nil ?_
                change wpList _ _ _ _ _ wr.drew
                clear c2
                go_wp2
                go_roundw
                case rel =>
                  repeat apply Exists.intro
                  refine ⟨⟨i + 1, by omega, ?_, row_upd32v HV3.out.drew (by omega), grown_set (grown_drew HG3.out) (.inl rfl) _⟩, rfl⟩
                  go_num
                case measure => simp [intOf]; omega
              · obtain rfl : i = 8 := by omega
                have h9 := HV3.out.congr (g := fun j => .int .u32 ((s.add v).word j : Nat)) (fun j hj => by
                  rw [upd_lt _ _ hj]
                  match j, hj with
                  | 0, _ => rfl
                  | 1, _ => rfl
                  | 2, _ => rfl
                  | 3, _ => rfl
                  | 4, _ => rfl
                  | 5, _ => rfl
                  | 6, _ => rfl
                  | 7, _ => rfl)
                have h6 := HR6.out.of_block (HG3.out.block (w.heap.size + 1) (by have := HSZ2.out; omega) (by have := HSZ2.out; intro e; injection e with e; omega))
                have hbr : Below w.heap.size w wr := below_of_grown HBQ.out HG3.out (by have := HSZ2.out; omega) (by have := HSZ2.out; omega)
                obtain ⟨z, hz⟩ : ∃ z, z = s.add v := ⟨_, rfl⟩
                rw [← hz] at h9
                have HZ := Lib.hid hz
                clear hz
                have y0 : wr.cell? ⟨V, 0, none⟩ = some (.int .u32 z.a) := h9.cell (i := 0) (by omega)
                have y1 : wr.cell? ⟨V, 1, none⟩ = some (.int .u32 z.b) := h9.cell (i := 1) (by omega)
                have y2 : wr.cell? ⟨V, 2, none⟩ = some (.int .u32 z.c) := h9.cell (i := 2) (by omega)
                have y3 : wr.cell? ⟨V, 3, none⟩ = some (.int .u32 z.d) := h9.cell (i := 3) (by omega)
                have y4 : wr.cell? ⟨V, 4, none⟩ = some (.int .u32 z.e) := h9.cell (i := 4) (by omega)
                have y5 : wr.cell? ⟨V, 5, none⟩ = some (.int .u32 z.f) := h9.cell (i := 5) (by omega)
                have y6 : wr.cell? ⟨V, 6, none⟩ = some (.int .u32 z.g) := h9.cell (i := 6) (by omega)
                have y7 : wr.cell? ⟨V, 7, none⟩ = some (.int .u32 z.h) := h9.cell (i := 7) (by omega)
                have x0 := h6.cell (i := 0) (by omega)
                have x1 := h6.cell (i := 1) (by omega)
                have x2 := h6.cell (i := 2) (by omega)
                have x3 := h6.cell (i := 3) (by omega)
                have x4 := h6.cell (i := 4) (by omega)
                have x5 := h6.cell (i := 5) (by omega)
                have x6 := h6.cell (i := 6) (by omega)
                have x7 := h6.cell (i := 7) (by omega)
                have f0 := h6.frozen 0
                have f1 := h6.frozen 1
                have f2 := h6.frozen 2
                have f3 := h6.frozen 3
                have f4 := h6.frozen 4
                have f5 := h6.frozen 5
                have f6 := h6.frozen 6
                have f7 := h6.frozen 7
                have H9 := Lib.hid h9
                have H6 := Lib.hid h6
                have HBR := Lib.hid hbr
                clear h9 h6 hbr HV3 HG3
                go_wp2
                obtain ⟨ds, e1, e2, e3⟩ := row8_set H6.out (.int .u32 (z.a : Nat)) (.int .u32 (z.b : Nat)) (.int .u32 (z.c : Nat)) (.int .u32 (z.d : Nat)) (.int .u32 (z.e : Nat)) (.int .u32 (z.f : Nat)) (.int .u32 (z.g : Nat)) (.int .u32 (z.h : Nat))
                  (fun j => .int .u32 (z.word j : Nat)) rfl rfl rfl rfl rfl rfl rfl rfl
                refine bodyPost_ret (results_cell_row rfl _ _ (w.heap.size + 1) 139 ds (0, 0) _ rfl e1 Tryz.underlying139 rfl (by rw [e2]; exact size8)) rfl ?_
                refine ⟨by rw [agg8 e2 e3, HZ.out, HVV.out], ?_⟩
                exact below_of_grown HBR.out (grown8 (V := w.heap.size + 1) (grown_refl wr (some (w.heap.size + 1))) _ _ _ _ _ _ _ _) HBR.out.size (by omega)
end Go.Proofs.YtlhbijpmhokmnaaGreat
