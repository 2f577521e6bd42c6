/-
  THE CHAPTER'S EXAMPLES, reckoned by the kernel. Plain. Conditions: none.
  THE WALK OF quillpresskit.SameBytes at equal lists. Conditions: at most 100000 bytes.
  THE WALK OF quillpresskit.SameModel at equal models. Conditions: both read as the same model.
  THE WALK OF quillpresslaw23.awake: the chapter's examples. Conditions: none.
-/
import Derived.Test.YthmpagehmfillaaQ29
import Derived.Test.YthmpagehmfillaaQ03
import Derived.Deep.QuietTactic
import Derived.BigQuiet
import Derived.Deep.DeepCutAuto
import Derived.Lib.Hide
import Derived.Test.YthmpagehmfillaaQ39
namespace Go.Proofs.Ythmpagehmfillaa
set_option linter.unusedSimpArgs false
set_option linter.unusedVariables false
def exA : Sts := .cons 1 ⟨3, 0, 0, 0⟩ c0 .nil .nil 0 .nil
def exB : Sts := .cons 3 i0 ⟨false, ⟨20, 0, 7, 5⟩⟩ exA .nil 0 .nil
def exC : Sts := .cons 2 i0 ⟨false, ⟨19, 0, 7, 0⟩⟩ (.cons 4 i0 c0 .nil .nil 0 .nil) exA 0 .nil
theorem ex_a : stmtsE false exA = 0 ∧ stmtsC false exA = [24, 0] := ⟨by kernel_rfl, by kernel_rfl⟩
theorem ex_b : stmtsE false exB = 0 ∧ stmtsC false exB = [24, 167, 5, 216, 251, 0] := ⟨by kernel_rfl, by kernel_rfl⟩
theorem ex_c : stmtsE false exC = 0 ∧ stmtsC false exC = [159, 0, 224, 3, 0, 232, 1, 24, 0] := ⟨by kernel_rfl, by kernel_rfl⟩
theorem ex_d : compR (parseT ⟨#[109, 111, 100, 101, 108, 32, 48, 32, 48, 32, 123, 32, 99, 111, 110, 115, 116, 32, 53, 32, 125, 32, 99, 111, 100, 101, 32, 123, 32, 97, 43, 43, 32, 125]⟩) = (⟨0, 0, 0, 0, [⟨1, 0, 0, 0, 5, 0, 0⟩], [24, 0], []⟩, 0, 0) := by kernel_rfl
theorem ex_e : (compR (parseT ⟨#[109, 111, 100, 101, 108, 32, 48, 32, 48, 32, 123, 32, 125, 32, 99, 111, 100, 101, 32, 123, 32, 125]⟩)).2 = (100, 0) := by kernel_rfl
end Go.Proofs.Ythmpagehmfillaa
namespace Go.Proofs.Ythmpagehmfillaa
open Go.RowKit
set_option linter.unusedSimpArgs false
set_option linter.unusedVariables false
set_option maxRecDepth 100000
def SmR (n : Nat) (w : World) (s5 : Value) (wr : World) : Prop := ∃ k : Nat, k ≤ n ∧ s5 = .int .i64 k ∧ Below w.heap.size w wr
theorem samB_any (A1 A2 : Option Addr) (c1 c2 : Nat) (l : List Nat) (w : World) (h1 : Rd w A1 l) (h2 : Rd w A2 l) (hl : l.length ≤ 100000) :
    Calls Try.prog 15 #[.slice A1 l.length c1, .slice A2 l.length c2] w fun e w' => e = .returned (.bool true) ∧ Below w.heap.size w w' := by
  have H1 := Lib.hid h1
  have H2 := Lib.hid h2
  have HL := Lib.hid hl
  have HR0 := Lib.hid (show SmR l.length w (.int .i64 0) w from ⟨0, Nat.zero_le _, rfl, Below.refl _ _⟩)
  clear h1 h2 hl
  go_enter Try.func15, Try.ntmps15
  go_wp2_with fail
  go_loopw [5] (fun s5 wr => SmR l.length w s5 wr) (fun s _ => l.length - (intOf s).toNat)
  case atStart => exact HR0.out
  case round =>
    clear HR0
    obtain ⟨k, hk, rfl, hb⟩ := hrel
    by_cases h0 : k < l.length
    · have hne : l ≠ [] := by rintro rfl; exact absurd h0 (Nat.not_lt_zero _)
      obtain ⟨g1, o1, rfl, hg1, hc1⟩ := (H1.out.below hb).2 hne
      obtain ⟨g2, o2, rfl, hg2, hc2⟩ := (H2.out.below hb).2 hne
      have b1 : (k : Int) < (l.length : Int) := by omega
      have b0 : (0 : Int) ≤ (k : Int) := by omega
      have a1 := hc1 k h0
      have a2 := hc2 k h0
      have hkl : k ≤ 100000 := by have := HL.out; omega
      have HB := Lib.hid hb
      clear hc1 hc2 hg1 hg2 hb hne
      go_upto_region 6 with fail
      go_quiet (fail)
      go_wp2_with fail
      go_roundw
      case rel => exact ⟨k + 1, by omega, by go_num, below_drewN' HB.out _⟩
      case measure => simp [intOf]; omega
    · obtain rfl : k = l.length := by omega
      have b1 : ¬ ((l.length : Int) < (l.length : Int)) := by omega
      have HB := Lib.hid hb
      clear hb
      go_wp2_with fail
      go_ret
      exact ⟨rfl, HB.out⟩
end Go.Proofs.Ythmpagehmfillaa
namespace Go.Proofs.Ythmpagehmfillaa
open Go.RowKit
set_option linter.unusedSimpArgs false
set_option linter.unusedVariables false
set_option maxRecDepth 100000
set_option maxHeartbeats 8000000 in
theorem samM_any (M : ModS) (vp up : Value) (Ac Aq Bc Bq : Option Addr) (nc nq mc mq : Nat) (S : Nat → Prop) (w : World) (hp : PrT w S vp M.parts) (hq : PrT w S up M.parts)
    (h1 : Rd w Ac M.code) (h2 : Rd w Bc M.code) (h3 : Rd w Aq M.post) (h4 : Rd w Bq M.post) (hl : M.code.length ≤ 100000 ∧ M.post.length ≤ 100000) :
    Calls Try.prog 7 #[.agg (modA M.h M.m M.ph M.pm vp (.slice Ac M.code.length nc) (.slice Aq M.post.length nq)), .agg (modA M.h M.m M.ph M.pm up (.slice Bc M.code.length mc) (.slice Bq M.post.length mq))] w fun e w' => e = .returned (.bool true) ∧ Below w.heap.size w w' := by
  obtain ⟨A1, n1, rfl⟩ := hp.form
  obtain ⟨B1, m1, rfl⟩ := hq.form
  obtain ⟨a2, a3, ab, -⟩ := two_ob w (.cells (modA M.h M.m M.ph M.pm (.slice A1 M.parts.length n1) (.slice Ac M.code.length nc) (.slice Aq M.post.length nq)) 26) (.cells (modA M.h M.m M.ph M.pm (.slice B1 M.parts.length m1) (.slice Bc M.code.length mc) (.slice Bq M.post.length mq)) 26)
  have r2 := mod_row a2
  have r3 := mod_row a3
  have HP := Lib.hid (And.intro (hp.below ab) (hq.below ab))
  have HD := Lib.hid (And.intro (h1.below ab) (And.intro (h2.below ab) (And.intro (h3.below ab) (h4.below ab))))
  have HL := Lib.hid hl
  unfold modA at *
  clear a2 a3 hp hq h1 h2 h3 h4 hl
  go_enter Try.func7, Try.ntmps7
  go_upto_region 1 with fail
  generalize (w.alloc (.cells #[.int .i64 M.h, .int .i64 M.m, .int .i64 M.ph, .int .i64 M.pm, .slice A1 M.parts.length n1, .slice Ac M.code.length nc, .slice Aq M.post.length nq] 26)).alloc (.cells #[.int .i64 M.h, .int .i64 M.m, .int .i64 M.ph, .int .i64 M.pm, .slice B1 M.parts.length m1, .slice Bc M.code.length mc, .slice Bq M.post.length mq] 26) = W2 at *
  have R2 := Lib.hid r2
  have R3 := Lib.hid r3
  have HB := Lib.hid ab
  have c0 := r2.cell (show 0 < 7 by omega)
  have c1 := r2.cell (show 1 < 7 by omega)
  have c2 := r2.cell (show 2 < 7 by omega)
  have c3 := r2.cell (show 3 < 7 by omega)
  have c4 := r2.cell (show 4 < 7 by omega)
  have c5 := r2.cell (show 5 < 7 by omega)
  have c6 := r2.cell (show 6 < 7 by omega)
  dsimp only [modF] at c0 c1 c2 c3 c4 c5 c6
  have d0 := r3.cell (show 0 < 7 by omega)
  have d1 := r3.cell (show 1 < 7 by omega)
  have d2 := r3.cell (show 2 < 7 by omega)
  have d3 := r3.cell (show 3 < 7 by omega)
  have d4 := r3.cell (show 4 < 7 by omega)
  have d5 := r3.cell (show 5 < 7 by omega)
  have d6 := r3.cell (show 6 < 7 by omega)
  dsimp only [modF] at d0 d1 d2 d3 d4 d5 d6
  clear r2 r3 ab
  go_wp2_with fail
  refine (samP_any M.parts (.slice A1 M.parts.length n1) (.slice B1 M.parts.length m1) S S W2 HP.out.1 HP.out.2).mono ?_
  rintro e w3 ⟨rfl, hb3⟩
  have HB3 := Lib.hid hb3
  have r2 := below_row hb3 R2.out R2.out.lt
  have r3 := below_row hb3 R3.out R3.out.lt
  clear hb3 c0 c1 c2 c3 c4 c5 c6 d0 d1 d2 d3 d4 d5 d6
  have c0 := r2.cell (show 0 < 7 by omega)
  have c1 := r2.cell (show 1 < 7 by omega)
  have c2 := r2.cell (show 2 < 7 by omega)
  have c3 := r2.cell (show 3 < 7 by omega)
  have c4 := r2.cell (show 4 < 7 by omega)
  have c5 := r2.cell (show 5 < 7 by omega)
  have c6 := r2.cell (show 6 < 7 by omega)
  dsimp only [modF] at c0 c1 c2 c3 c4 c5 c6
  have d0 := r3.cell (show 0 < 7 by omega)
  have d1 := r3.cell (show 1 < 7 by omega)
  have d2 := r3.cell (show 2 < 7 by omega)
  have d3 := r3.cell (show 3 < 7 by omega)
  have d4 := r3.cell (show 4 < 7 by omega)
  have d5 := r3.cell (show 5 < 7 by omega)
  have d6 := r3.cell (show 6 < 7 by omega)
  dsimp only [modF] at d0 d1 d2 d3 d4 d5 d6
  clear r2 r3
  go_wp2_with fail
  refine (samB_any Ac Bc nc mc M.code w3 (HD.out.1.below HB3.out) (HD.out.2.1.below HB3.out) HL.out.1).mono ?_
  rintro e w4 ⟨rfl, hb4⟩
  have HB4 := Lib.hid (HB3.out.trans (hb4.mono HB3.out.size))
  have r2 := below_row HB4.out R2.out R2.out.lt
  have r3 := below_row HB4.out R3.out R3.out.lt
  clear hb4 c0 c1 c2 c3 c4 c5 c6 d0 d1 d2 d3 d4 d5 d6
  have c0 := r2.cell (show 0 < 7 by omega)
  have c1 := r2.cell (show 1 < 7 by omega)
  have c2 := r2.cell (show 2 < 7 by omega)
  have c3 := r2.cell (show 3 < 7 by omega)
  have c4 := r2.cell (show 4 < 7 by omega)
  have c5 := r2.cell (show 5 < 7 by omega)
  have c6 := r2.cell (show 6 < 7 by omega)
  dsimp only [modF] at c0 c1 c2 c3 c4 c5 c6
  have d0 := r3.cell (show 0 < 7 by omega)
  have d1 := r3.cell (show 1 < 7 by omega)
  have d2 := r3.cell (show 2 < 7 by omega)
  have d3 := r3.cell (show 3 < 7 by omega)
  have d4 := r3.cell (show 4 < 7 by omega)
  have d5 := r3.cell (show 5 < 7 by omega)
  have d6 := r3.cell (show 6 < 7 by omega)
  dsimp only [modF] at d0 d1 d2 d3 d4 d5 d6
  clear r2 r3
  go_wp2_with fail
  refine (samB_any Aq Bq nq mq M.post w4 (HD.out.2.2.1.below HB4.out) (HD.out.2.2.2.below HB4.out) HL.out.2).mono ?_
  rintro e w5 ⟨rfl, hb5⟩
  have HB5 := Lib.hid (HB.out.trans ((HB4.out.trans (hb5.mono HB4.out.size)).mono HB.out.size))
  clear hb5 c0 c1 c2 c3 c4 c5 c6 d0 d1 d2 d3 d4 d5 d6
  go_wp2_with fail
  go_ret
  exact ⟨rfl, HB5.out⟩
end Go.Proofs.Ythmpagehmfillaa
namespace Go.Proofs.Ythmpagehmfillaa
open Go.RowKit
set_option linter.unusedSimpArgs false
set_option linter.unusedVariables false
set_option maxRecDepth 100000
theorem tr_lit {w : World} {S : Nat → Prop} {g : Nat} {k : Nat} {i : InsS} {c : ConS} {vb ve : Value} {ln : Int} {b e : Sts} {cs : Array Value} {t : TypeId} (hh : w.heap[g]? = some (.cells cs t)) (hcs : cs.toList = stC k i c vb ve ln) (hS : S g) (hb : Tr w S vb b) (he : Tr w S ve e) :
    Tr w S (.slice (some ⟨g, 0, none⟩) 1 1) (.cons k i c b e ln .nil) :=
  ⟨stC k i c vb ve ln, ⟨rfl, _, 1, rfl, Nat.le_refl _, by unfold maxLen; omega, fun _ => ⟨g, 0, rfl, hS, lt_of_block hh, fun j hj => by
    rw [Nat.zero_add, cell_of_row _ _ _ _ _ _ hh, ← Array.getElem?_toList, hcs]
    exact List.getElem?_eq_getElem hj⟩⟩, vb, ve, [], by simp, hb, he, rfl⟩
theorem rd_lit {w : World} {g : Nat} {t : TypeId} (l : List Nat) (hl : ∀ x ∈ l, x < 256) (h : w.heap[g]? = some (.cells (l.map fun x => Value.int .u8 (x : Nat)).toArray t)) : Rd w (some ⟨g, 0, none⟩) l :=
  ⟨hl, fun _ => ⟨g, 0, rfl, lt_of_block h, fun i hi => by
    rw [Nat.zero_add, cell_of_row _ _ _ _ _ _ h, List.getElem?_toArray, List.getElem?_map, List.getElem?_eq_getElem hi, nth_get hi]
    rfl⟩⟩
/-- The code of an example. -/
theorem stm_lit (T : Sts) (l : List Nat) (h : stmtsE false T = 0 ∧ stmtsC false T = l) (h8 : T.b8) (hn : T.all ≤ 3000) (v : Value) (w : World) (hT : Tr w (fun _ => True) v T) :
    Calls Try.prog 11 #[v, .bool false] w fun e w' => ∃ A c, e = .returned (.tuple #[.slice A l.length c, .int .i64 0]) ∧ Rd w' A l ∧ Below w.heap.size w w' := by
  refine (stmts_any false T v _ w h8 hn hT).mono ?_
  rintro e w' ⟨u, rfl, ho, hb⟩
  rw [h.2] at ho
  obtain ⟨A, c, rfl, -, -, hr⟩ := ho.form
  rw [h.1]
  exact ⟨A, c, rfl, hr, hb⟩
/-- What compiling a text comes to, when it is known. -/
def CmQ (M : ModS) (x y : Int) (w : World) (e : Ending) (w' : World) : Prop :=
  ∃ vp vc vq, e = .returned (.tuple #[.agg (modA M.h M.m M.ph M.pm vp vc vq), .agg #[.int .i64 x, .int .i64 y]]) ∧ PrT w' (fun k => w.heap.size ≤ k) vp M.parts ∧ Ow w' w.heap.size vc M.code ∧ Ow w' w.heap.size vq M.post ∧ Below w.heap.size w w'
theorem CompP.q {r : Res CfgS} {M : ModS} {x y : Int} (h : compR r = (M, x, y)) {w w' : World} {e : Ending} : CompP r w e w' → CmQ M x y w e w' := by
  unfold CompP CmQ
  rw [h]
  exact id
theorem comp_d (w : World) : Calls Try.prog 6 #[.string ⟨#[109, 111, 100, 101, 108, 32, 48, 32, 48, 32, 123, 32, 99, 111, 110, 115, 116, 32, 53, 32, 125, 32, 99, 111, 100, 101, 32, 123, 32, 97, 43, 43, 32, 125]⟩] w fun e w' => ∃ A1 c1 A2 c2 A3 c3, e = .returned (.tuple #[.agg #[.int .i64 0, .int .i64 0, .int .i64 0, .int .i64 0, .slice A1 1 c1, .slice A2 2 c2, .slice A3 0 c3], .agg #[.int .i64 0, .int .i64 0]]) ∧ Rd w' A2 [24, 0] ∧ Below w.heap.size w w' := by
  refine (compile_any _ w).mono ?_
  intro e w' h
  obtain ⟨vp, vc, vq, rfl, hp, hc, hq, hb⟩ := h.q ex_d
  obtain ⟨A1, c1, rfl⟩ := hp.form
  obtain ⟨A2, c2, rfl, -, -, hr⟩ := hc.form
  obtain ⟨A3, c3, rfl, -, -, -⟩ := hq.form
  exact ⟨A1, c1, A2, c2, A3, c3, rfl, hr, hb⟩
theorem comp_e (w : World) : Calls Try.prog 6 #[.string ⟨#[109, 111, 100, 101, 108, 32, 48, 32, 48, 32, 123, 32, 125, 32, 99, 111, 100, 101, 32, 123, 32, 125]⟩] w fun e w' => ∃ a b c d A1 n1 c1 A2 n2 c2 A3 n3 c3, e = .returned (.tuple #[.agg #[.int .i64 a, .int .i64 b, .int .i64 c, .int .i64 d, .slice A1 n1 c1, .slice A2 n2 c2, .slice A3 n3 c3], .agg #[.int .i64 100, .int .i64 0]]) ∧ Below w.heap.size w w' := by
  refine (compile_any _ w).mono ?_
  intro e w' h
  obtain ⟨vp, vc, vq, rfl, hp, hc, hq, hb⟩ := h.q (M := (compR (parseT _)).1) (x := 100) (y := 0) (Prod.ext rfl ex_e)
  obtain ⟨A1, c1, rfl⟩ := hp.form
  obtain ⟨A2, c2, rfl, -, -, hr⟩ := hc.form
  obtain ⟨A3, c3, rfl, -, -, -⟩ := hq.form
  exact ⟨_, _, _, _, _, _, _, _, _, _, _, _, _, rfl, hb⟩
theorem three_ob (w : World) (a b c : Obj) : (((w.alloc a).alloc b).alloc c).heap[w.heap.size]? = some a ∧ (((w.alloc a).alloc b).alloc c).heap[w.heap.size + 1]? = some b ∧ (((w.alloc a).alloc b).alloc c).heap[w.heap.size + 2]? = some c ∧ Below w.heap.size w (((w.alloc a).alloc b).alloc c) := by
  obtain ⟨h1, h2, h3, h4⟩ := two_ob w a b
  have h5 := heap_alloc_new ((w.alloc a).alloc b) c
  rw [h4] at h5
  have hb : Below ((w.alloc a).alloc b).heap.size ((w.alloc a).alloc b) (((w.alloc a).alloc b).alloc c) := (Below.refl _ _).alloc (Nat.le_refl _) _
  exact ⟨(hb.block _ (by omega)).trans h1, (hb.block _ (by omega)).trans h2, h5, h3.trans (hb.mono (by omega))⟩
theorem exB8 : exA.b8 ∧ exB.b8 ∧ exC.b8 := by simp [exA, exB, exC, Sts.b8, i0, c0]
/-- Cells of what two calls of Compile have left. -/
def AwC (p q r : Nat) (An : Option Addr) (cn : Nat) (Ao : Option Addr) (co : Nat) (w : World) : Prop := w.cell? ⟨q, 0, none⟩ = some (.int .i64 0) ∧ w.cell? ⟨p, 5, none⟩ = some (.slice An 2 cn) ∧ w.cell? ⟨p, 6, none⟩ = some (.slice Ao 0 co) ∧ w.cell? ⟨r, 0, none⟩ = some (.int .i64 100) ∧ w.cell? ⟨r, 1, none⟩ = some (.int .i64 0) ∧ p < w.heap.size ∧ q < w.heap.size ∧ r < w.heap.size
theorem AwC.below {p q r : Nat} {An Ao : Option Addr} {cn co : Nat} {w w' : World} (h : AwC p q r An cn Ao co w) (hb : Below w.heap.size w w') : AwC p q r An cn Ao co w' := by
  obtain ⟨h1, h2, h3, h4, h5, h6, h7, h8⟩ := h
  exact ⟨(hb.cell (p := ⟨q, 0, none⟩) h7).trans h1, (hb.cell (p := ⟨p, 5, none⟩) h6).trans h2, (hb.cell (p := ⟨p, 6, none⟩) h6).trans h3, (hb.cell (p := ⟨r, 0, none⟩) h8).trans h4, (hb.cell (p := ⟨r, 1, none⟩) h8).trans h5, Nat.lt_of_lt_of_le h6 hb.size, Nat.lt_of_lt_of_le h7 hb.size, Nat.lt_of_lt_of_le h8 hb.size⟩
set_option maxHeartbeats 8000000 in
theorem awake23 (w : World) : Calls Try.prog 5 #[] w fun e w' => e = .returned (.bool true) ∧ Below w.heap.size w w' := by
  obtain ⟨hi1, hi2, hib, his⟩ := two_ob w (.cells #[.int .u8 1, .int .u8 3, .int .i64 0, .int .i64 0, .int .i64 0, .bool false, .int .u8 0, .int .i64 0, .int .i64 0, .int .i64 0, .slice none 0 0, .slice none 0 0, .int .i64 0] 60) (.cells #[.int .u8 1, .int .u8 3, .int .i64 0, .int .i64 0, .int .i64 0, .bool false, .int .u8 0, .int .i64 0, .int .i64 0, .int .i64 0, .slice none 0 0, .slice none 0 0, .int .i64 0] 60)
  have HT1 := Lib.hid (tr_lit (S := fun _ => True) hi2 rfl trivial (Tr.nil _ _) (Tr.nil _ _) : Tr _ (fun _ => True) _ exA)
  have HI := Lib.hid (And.intro hi1 (show w.heap.size < w.heap.size + 2 by omega))
  rw [← his] at HI
  have HB0 := Lib.hid hib
  clear hi1 hi2 hib his
  go_enter Try.func5, Try.ntmps5
  go_wp2_with fail
  generalize (w.alloc (.cells #[.int .u8 1, .int .u8 3, .int .i64 0, .int .i64 0, .int .i64 0, .bool false, .int .u8 0, .int .i64 0, .int .i64 0, .int .i64 0, .slice none 0 0, .slice none 0 0, .int .i64 0] 60)).alloc (.cells #[.int .u8 1, .int .u8 3, .int .i64 0, .int .i64 0, .int .i64 0, .bool false, .int .u8 0, .int .i64 0, .int .i64 0, .int .i64 0, .slice none 0 0, .slice none 0 0, .int .i64 0] 60) = W1 at *
  refine (stm_lit exA [24, 0] ex_a exB8.1 (by decide) _ W1 HT1.out).mono ?_
  rintro e w2 ⟨A1, c1, rfl, h1, hb⟩
  have H1 := Lib.hid h1
  have HI2 := Lib.hid (And.intro ((hb.block _ HI.out.2).trans HI.out.1) (Nat.lt_of_lt_of_le HI.out.2 hb.size))
  have HB2 := Lib.hid (HB0.out.trans (hb.mono HB0.out.size))
  obtain ⟨hc, hz⟩ := HI2.out
  clear h1 hb HT1 HI HB0
  have c0 := cell_of_row _ _ 0 _ _ _ hc
  have c1 := cell_of_row _ _ 1 _ _ _ hc
  have c2 := cell_of_row _ _ 2 _ _ _ hc
  have c3 := cell_of_row _ _ 3 _ _ _ hc
  have c4 := cell_of_row _ _ 4 _ _ _ hc
  have c5 := cell_of_row _ _ 5 _ _ _ hc
  have c6 := cell_of_row _ _ 6 _ _ _ hc
  have c7 := cell_of_row _ _ 7 _ _ _ hc
  have c8 := cell_of_row _ _ 8 _ _ _ hc
  have c9 := cell_of_row _ _ 9 _ _ _ hc
  have c10 := cell_of_row _ _ 10 _ _ _ hc
  have c11 := cell_of_row _ _ 11 _ _ _ hc
  have c12 := cell_of_row _ _ 12 _ _ _ hc
  simp only [List.getElem?_toArray, List.getElem?_cons_zero, List.getElem?_cons_succ] at c0 c1 c2 c3 c4 c5 c6 c7 c8 c9 c10 c11 c12
  obtain ⟨hi1, hi2, hib, his⟩ := two_ob w2 (.cells #[.int .u8 1, .int .u8 3, .int .i64 0, .int .i64 0, .int .i64 0, .bool false, .int .u8 0, .int .i64 0, .int .i64 0, .int .i64 0, .slice none 0 0, .slice none 0 0, .int .i64 0] 60) (.cells #[.int .u8 3, .int .u8 0, .int .i64 0, .int .i64 0, .int .i64 0, .bool false, .int .u8 20, .int .i64 0, .int .i64 7, .int .i64 5, .slice (some ⟨w2.heap.size, 0, none⟩) 1 1, .slice none 0 0, .int .i64 0] 60)
  have HT3 := Lib.hid (tr_lit (S := fun _ => True) hi2 rfl trivial (tr_lit (S := fun _ => True) hi1 rfl trivial (Tr.nil _ _) (Tr.nil _ _)) (Tr.nil _ _) : Tr _ (fun _ => True) _ exB)
  have HIB := Lib.hid hib
  clear hc hi1 hi2 hib his
  go_wp2_with fail
  clear c0 c1 c2 c3 c4 c5 c6 c7 c8 c9 c10 c11 c12 hz
  generalize (w2.alloc (.cells #[.int .u8 1, .int .u8 3, .int .i64 0, .int .i64 0, .int .i64 0, .bool false, .int .u8 0, .int .i64 0, .int .i64 0, .int .i64 0, .slice none 0 0, .slice none 0 0, .int .i64 0] 60)).alloc (.cells #[.int .u8 3, .int .u8 0, .int .i64 0, .int .i64 0, .int .i64 0, .bool false, .int .u8 20, .int .i64 0, .int .i64 7, .int .i64 5, .slice (some ⟨w2.heap.size, 0, none⟩) 1 1, .slice none 0 0, .int .i64 0] 60) = W3 at *
  refine (stm_lit exB [24, 167, 5, 216, 251, 0] ex_b exB8.2.1 (by decide) _ W3 HT3.out).mono ?_
  rintro e w3 ⟨A2, c2, rfl, h2, hb⟩
  have HH := Lib.hid (HIB.out.trans (hb.mono HIB.out.size))
  have H12 := Lib.hid (And.intro (H1.out.below HH.out) h2)
  have HI3 := Lib.hid (And.intro ((HH.out.block _ HI2.out.2).trans HI2.out.1) (Nat.lt_of_lt_of_le HI2.out.2 HH.out.size))
  have HB3 := Lib.hid (HB2.out.trans (HH.out.mono HB2.out.size))
  obtain ⟨hc, hz⟩ := HI3.out
  clear h2 hb HT3 HI2 HIB HH H1 HB2
  have c0 := cell_of_row _ _ 0 _ _ _ hc
  have c1 := cell_of_row _ _ 1 _ _ _ hc
  have c2 := cell_of_row _ _ 2 _ _ _ hc
  have c3 := cell_of_row _ _ 3 _ _ _ hc
  have c4 := cell_of_row _ _ 4 _ _ _ hc
  have c5 := cell_of_row _ _ 5 _ _ _ hc
  have c6 := cell_of_row _ _ 6 _ _ _ hc
  have c7 := cell_of_row _ _ 7 _ _ _ hc
  have c8 := cell_of_row _ _ 8 _ _ _ hc
  have c9 := cell_of_row _ _ 9 _ _ _ hc
  have c10 := cell_of_row _ _ 10 _ _ _ hc
  have c11 := cell_of_row _ _ 11 _ _ _ hc
  have c12 := cell_of_row _ _ 12 _ _ _ hc
  simp only [List.getElem?_toArray, List.getElem?_cons_zero, List.getElem?_cons_succ] at c0 c1 c2 c3 c4 c5 c6 c7 c8 c9 c10 c11 c12
  obtain ⟨hi1, hi2, hi3, hib⟩ := three_ob w3 (.cells #[.int .u8 4, .int .u8 0, .int .i64 0, .int .i64 0, .int .i64 0, .bool false, .int .u8 0, .int .i64 0, .int .i64 0, .int .i64 0, .slice none 0 0, .slice none 0 0, .int .i64 0] 60) (.cells #[.int .u8 1, .int .u8 3, .int .i64 0, .int .i64 0, .int .i64 0, .bool false, .int .u8 0, .int .i64 0, .int .i64 0, .int .i64 0, .slice none 0 0, .slice none 0 0, .int .i64 0] 60) (.cells #[.int .u8 2, .int .u8 0, .int .i64 0, .int .i64 0, .int .i64 0, .bool false, .int .u8 19, .int .i64 0, .int .i64 7, .int .i64 0, .slice (some ⟨w3.heap.size, 0, none⟩) 1 1, .slice (some ⟨w3.heap.size + 1, 0, none⟩) 1 1, .int .i64 0] 60)
  have HT4 := Lib.hid (tr_lit (S := fun _ => True) hi3 rfl trivial (tr_lit (S := fun _ => True) hi1 rfl trivial (Tr.nil _ _) (Tr.nil _ _)) (tr_lit (S := fun _ => True) hi2 rfl trivial (Tr.nil _ _) (Tr.nil _ _)) : Tr _ (fun _ => True) _ exC)
  have HIB := Lib.hid hib
  clear hc hi1 hi2 hi3 hib
  go_wp2_with fail
  clear c0 c1 c2 c3 c4 c5 c6 c7 c8 c9 c10 c11 c12 hz
  generalize ((w3.alloc (.cells #[.int .u8 4, .int .u8 0, .int .i64 0, .int .i64 0, .int .i64 0, .bool false, .int .u8 0, .int .i64 0, .int .i64 0, .int .i64 0, .slice none 0 0, .slice none 0 0, .int .i64 0] 60)).alloc (.cells #[.int .u8 1, .int .u8 3, .int .i64 0, .int .i64 0, .int .i64 0, .bool false, .int .u8 0, .int .i64 0, .int .i64 0, .int .i64 0, .slice none 0 0, .slice none 0 0, .int .i64 0] 60)).alloc (.cells #[.int .u8 2, .int .u8 0, .int .i64 0, .int .i64 0, .int .i64 0, .bool false, .int .u8 19, .int .i64 0, .int .i64 7, .int .i64 0, .slice (some ⟨w3.heap.size, 0, none⟩) 1 1, .slice (some ⟨w3.heap.size + 1, 0, none⟩) 1 1, .int .i64 0] 60) = W4 at *
  refine (stm_lit exC [159, 0, 224, 3, 0, 232, 1, 24, 0] ex_c exB8.2.2 (by decide) _ W4 HT4.out).mono ?_
  rintro e w4 ⟨A3, c3, rfl, h3, hb⟩
  have HH := Lib.hid (HIB.out.trans (hb.mono HIB.out.size))
  have H13 := Lib.hid (And.intro (H12.out.1.below HH.out) (And.intro (H12.out.2.below HH.out) h3))
  have HB4 := Lib.hid (HB3.out.trans (HH.out.mono HB3.out.size))
  clear h3 hb HT4 HIB HH H12 HB3 HI3
  go_wp2_with fail
  refine (comp_d _).mono ?_
  rintro e w5 ⟨Am, cm, An, cn, Ao, co, rfl, hn, hb⟩
  have H15 := Lib.hid (And.intro (H13.out.1.below hb) (And.intro (H13.out.2.1.below hb) (And.intro (H13.out.2.2.below hb) hn)))
  have HB5 := Lib.hid (HB4.out.trans (hb.mono HB4.out.size))
  obtain ⟨hm, hf, hib, his⟩ := two_ob w5 (.cells #[.int .i64 0, .int .i64 0, .int .i64 0, .int .i64 0, .slice Am 1 cm, .slice An 2 cn, .slice Ao 0 co] 26) (.cells #[.int .i64 0, .int .i64 0] 29)
  have HM := Lib.hid (And.intro hm (And.intro hf (And.intro hib his)))
  clear hb hn hm hf hib his H13 HB4
  go_wp2_with fail
  generalize (w5.alloc (.cells #[.int .i64 0, .int .i64 0, .int .i64 0, .int .i64 0, .slice Am 1 cm, .slice An 2 cn, .slice Ao 0 co] 26)).alloc (.cells #[.int .i64 0, .int .i64 0] 29) = W6 at *
  refine (comp_e W6).mono ?_
  rintro e w6 ⟨xa, xb, xc, xd, Ax, nx, cx, Ay, ny, cy, Az, nz, cz, rfl, hb⟩
  have HH := Lib.hid (HM.out.2.2.1.trans (hb.mono HM.out.2.2.1.size))
  have H16 := Lib.hid (And.intro (H15.out.1.below HH.out) (And.intro (H15.out.2.1.below HH.out) (And.intro (H15.out.2.2.1.below HH.out) (H15.out.2.2.2.below HH.out))))
  have HB6 := Lib.hid (HB5.out.trans (HH.out.mono HB5.out.size))
  have hs6 := hb.size
  have hm := (hb.block _ (by have := HM.out.2.2.2; omega)).trans HM.out.1
  have hf := (hb.block _ (by have := HM.out.2.2.2; omega)).trans HM.out.2.1
  have hs5 := HM.out.2.2.2
  clear hb HH H15 HB5 HM
  obtain ⟨hi1, hi2, hib, his⟩ := two_ob w6 (.cells #[.int .i64 xa, .int .i64 xb, .int .i64 xc, .int .i64 xd, .slice Ax nx cx, .slice Ay ny cy, .slice Az nz cz] 26) (.cells #[.int .i64 100, .int .i64 0] 29)
  have HA7 : Hid (AwC w5.heap.size (w5.heap.size + 1) (w6.heap.size + 1) An cn Ao co ((w6.alloc (.cells #[.int .i64 xa, .int .i64 xb, .int .i64 xc, .int .i64 xd, .slice Ax nx cx, .slice Ay ny cy, .slice Az nz cz] 26)).alloc (.cells #[.int .i64 100, .int .i64 0] 29))) := by
    have e1 := (hib.block _ (by omega)).trans hm
    have e2 := (hib.block _ (by omega)).trans hf
    exact ⟨cell_of_row _ _ 0 _ _ _ e2, cell_of_row _ _ 5 _ _ _ e1, cell_of_row _ _ 6 _ _ _ e1, cell_of_row _ _ 0 _ _ _ hi2, cell_of_row _ _ 1 _ _ _ hi2, by omega, by omega, by omega⟩
  have HIB := Lib.hid hib
  clear hm hf hi1 hi2 hib his hs5 hs6
  go_upto_region 7 with fail
  generalize (w6.alloc (.cells #[.int .i64 xa, .int .i64 xb, .int .i64 xc, .int .i64 xd, .slice Ax nx cx, .slice Ay ny cy, .slice Az nz cz] 26)).alloc (.cells #[.int .i64 100, .int .i64 0] 29) = W7 at *
  have H17 := Lib.hid (And.intro (H16.out.1.below HIB.out) (And.intro (H16.out.2.1.below HIB.out) (And.intro (H16.out.2.2.1.below HIB.out) (H16.out.2.2.2.below HIB.out))))
  have HB7 := Lib.hid (HB6.out.trans (HIB.out.mono HB6.out.size))
  clear H16 HB6 HIB
  go_wp2_with fail
  have hq : Below W7.heap.size W7 (W7.alloc (.cells #[.int .u8 24, .int .u8 0] 5)) := (Below.refl _ _).alloc (Nat.le_refl _) _
  refine (samB_any _ _ _ _ [24, 0] _ (H17.out.1.below hq) (rd_lit [24, 0] (by decide) (heap_alloc_new W7 _)) (by decide)).mono ?_
  rintro e w8 ⟨rfl, hb⟩
  have HQ8 := Lib.hid (hq.trans (hb.mono hq.size))
  clear hq hb
  go_wp2_with fail
  have hq : Below w8.heap.size w8 (w8.alloc (.cells #[.int .u8 24, .int .u8 167, .int .u8 5, .int .u8 216, .int .u8 251, .int .u8 0] 5)) := (Below.refl _ _).alloc (Nat.le_refl _) _
  refine (samB_any _ _ _ _ [24, 167, 5, 216, 251, 0] _ ((H17.out.2.1.below HQ8.out).below hq) (rd_lit [24, 167, 5, 216, 251, 0] (by decide) (heap_alloc_new w8 _)) (by decide)).mono ?_
  rintro e w9 ⟨rfl, hb⟩
  have HQ9 := Lib.hid (hq.trans (hb.mono hq.size))
  clear hq hb
  have HX9 := Lib.hid (HQ8.out.trans (HQ9.out.mono HQ8.out.size))
  go_wp2_with fail
  have hq : Below w9.heap.size w9 (w9.alloc (.cells #[.int .u8 159, .int .u8 0, .int .u8 224, .int .u8 3, .int .u8 0, .int .u8 232, .int .u8 1, .int .u8 24, .int .u8 0] 5)) := (Below.refl _ _).alloc (Nat.le_refl _) _
  refine (samB_any _ _ _ _ [159, 0, 224, 3, 0, 232, 1, 24, 0] _ ((H17.out.2.2.1.below HX9.out).below hq) (rd_lit [159, 0, 224, 3, 0, 232, 1, 24, 0] (by decide) (heap_alloc_new w9 _)) (by decide)).mono ?_
  rintro e w10 ⟨rfl, hb⟩
  have HQ10 := Lib.hid (hq.trans (hb.mono hq.size))
  clear hq hb
  have HX10 := Lib.hid (HX9.out.trans (HQ10.out.mono HX9.out.size))
  obtain ⟨d1, d2, d3, d4, d5, -⟩ := HA7.out.below HX10.out
  go_wp2_with fail
  refine (samB_any An A1 cn _ [24, 0] _ (H17.out.2.2.2.below HX10.out) (H17.out.1.below HX10.out) (by decide)).mono ?_
  rintro e w11 ⟨rfl, hb⟩
  have HX11 := Lib.hid (HX10.out.trans (hb.mono HX10.out.size))
  clear hb d1 d2 d3 d4 d5
  obtain ⟨d1, d2, d3, d4, d5, -⟩ := HA7.out.below HX11.out
  go_wp2_with fail
  go_ret
  exact ⟨rfl, HB7.out.trans (HX11.out.mono HB7.out.size)⟩
end Go.Proofs.Ythmpagehmfillaa
