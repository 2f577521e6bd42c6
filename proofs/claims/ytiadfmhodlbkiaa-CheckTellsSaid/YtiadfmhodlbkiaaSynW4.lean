/-
  THE WALKS OF package syntax, fourth part: Right, Config. Conditions: an Op is a byte; fewer than 2^60 statements.
-/
import Derived.Test.YtiadfmhodlbkiaaSynW3
import Derived.Deep.DeepCutAuto
namespace Go.Proofs.Ytiadfmhodlbkiaa
open Go.RowKit
set_option linter.unusedSimpArgs false
set_option linter.unusedVariables false
theorem one_row {w : World} {a : Value} {t : TypeId} : (w.alloc (.cells #[a] t)).rowIs w.heap.size t 1 (fun _ => a) := ⟨#[a], heap_alloc_new w _, rfl, fun i hi => by
  match i, hi with
  | 0, _ => rfl⟩
set_option maxRecDepth 100000 in
set_option maxHeartbeats 8000000 in
theorem rightT_any (post : Bool) (T : Sts) (v : Value) (S : Nat → Prop) (w : World) (h8 : T.b8) (hn : T.all < 2 ^ 60) (hT : Tr w S v T) :
    Calls Try.prog 11 #[v, .bool post] w fun e w' => e = .returned (.bool (rightT post T)) ∧ Below w.heap.size w w' := by
  obtain ⟨A1, c1, rfl, -, -⟩ := hT.frm
  have e1 := World.size_alloc w (.cells #[.bool post] 4)
  have hb1 : Below w.heap.size w (w.alloc (.cells #[.bool post] 4)) := (Below.refl _ _).alloc (Nat.le_refl _) _
  have r1 := one_row (w := w) (a := .bool post) (t := 4)
  have HT := Lib.hid (hT.keep (w' := w.alloc (.cells #[.bool post] 4)) (S' := fun k => k < w.heap.size) (fun k _ hk => hb1.block k hk) hb1.size (fun k _ hk => hk))
  have HE := Lib.hid (And.intro e1 (And.intro h8 hn))
  have HB1 := Lib.hid hb1
  have HR1 := Lib.hid r1
  clear hT e1 h8 hn hb1 r1
  unfold rightT
  obtain ⟨a, ha⟩ : ∃ a, a = dpt 20 T := ⟨_, rfl⟩
  obtain ⟨b, hb⟩ : ∃ b, b = alR post 20 T := ⟨_, rfl⟩
  obtain ⟨n, hn⟩ : ∃ n, n = cnt 20 T := ⟨_, rfl⟩
  rw [← ha, ← hb, ← hn]
  have HAB := Lib.hid (And.intro ha (And.intro hb hn))
  clear ha hb hn
  go_enter Try.func11, Try.ntmps11
  go_wp2_with fail
  generalize w.alloc (.cells #[.bool post] 4) = W1 at *
  have e2 := World.size_alloc W1 (.cells #[.int .i64 0] 3)
  have e3 := World.size_alloc (W1.alloc (.cells #[.int .i64 0] 3)) (.cells #[.bool true] 4)
  have hb2 : Below W1.heap.size W1 (W1.alloc (.cells #[.int .i64 0] 3)) := (Below.refl _ _).alloc (Nat.le_refl _) _
  have hb3 : Below (W1.alloc (.cells #[.int .i64 0] 3)).heap.size (W1.alloc (.cells #[.int .i64 0] 3)) ((W1.alloc (.cells #[.int .i64 0] 3)).alloc (.cells #[.bool true] 4)) := (Below.refl _ _).alloc (Nat.le_refl _) _
  have r2 := below_row hb3 (one_row (w := W1) (a := .int .i64 0) (t := 3)) (by omega)
  have r3 := one_row (w := W1.alloc (.cells #[.int .i64 0] 3)) (a := .bool true) (t := 4)
  rw [e2] at r3
  have hbB : Below W1.heap.size W1 ((W1.alloc (.cells #[.int .i64 0] 3)).alloc (.cells #[.bool true] 4)) := hb2.trans (hb3.mono (by omega))
  generalize (W1.alloc (.cells #[.int .i64 0] 3)).alloc (.cells #[.bool true] 4) = W2 at *
  have hE := HE.out.1
  rw [show w.heap.size + 1 = W1.heap.size from hE.symm]
  have hrp : W2.cell? ⟨w.heap.size, 0, none⟩ = some (.bool post) := ((below_row hbB HR1.out HR1.out.lt).cell (by omega))
  have hst : StR W2 W1.heap.size W1.heap.size (W1.heap.size + 1) w.heap.size 0 true post := ⟨r2, r3, hrp, Nat.le_refl _, by omega, by omega, by omega, by omega⟩
  have HW := Lib.hid (walk_any post (T.all + 1) T 20 (.slice A1 T.len c1) (fun k => k < w.heap.size) 0 true W2 (Nat.lt_succ_self _) HE.out.2.1 (by omega) (HT.out.below hbB) (fun k hk => by omega) hst (by have := HE.out; omega))
  rw [← HAB.out.1, ← HAB.out.2.1, ← HAB.out.2.2] at HW
  have HB2 : Hid (Below w.heap.size w W2) := HB1.out.trans (hbB.mono HB1.out.size)
  have HL : Hid (w.heap.size ≤ W1.heap.size) := HB1.out.size
  clear e2 e3 hb2 hb3 r2 r3 hbB hE hrp hst HT HR1 HB1 HE
  generalize W1.heap.size = pn at *
  clear W1
  refine HW.out.mono ?_
  rintro e w3 ⟨rfl, hst, hb3⟩
  obtain ⟨q1, q2, q3, q4, q5, q6, q7, q8⟩ := hst
  have c1' : w3.cell? ⟨pn, 0, none⟩ = some (.int .i64 (0 + n : Nat)) := q1.cell (by omega)
  have c2' : w3.cell? ⟨pn + 1, 0, none⟩ = some (.bool (true && b)) := q2.cell (by omega)
  rw [Nat.zero_add] at c1'
  rw [Bool.true_and] at c2'
  have HB3 : Hid (Below w.heap.size w w3) := HB2.out.trans (hb3.mono HL.out)
  clear q1 q2 q3 q4 q5 q6 q7 q8 hb3 HW HB2 HL
  cases a with
  | false =>
    go_wp2_with fail
    go_ret
    exact ⟨rfl, HB3.out⟩
  | true =>
    cases b with
    | false =>
      go_wp2_with fail
      go_ret
      exact ⟨rfl, HB3.out⟩
    | true =>
      by_cases h5 : n ≤ 500
      · have h5I : (n : Int) ≤ 500 := by omega
        have H5 := Lib.hid h5
        clear h5
        go_wp2_with fail
        go_ret
        exact ⟨by rw [decide_eq_true H5.out]; rfl, HB3.out⟩
      · have h5I : ¬ (n : Int) ≤ 500 := by omega
        have H5 : Hid (¬ n ≤ 500) := h5
        clear h5
        go_wp2_with fail
        go_ret
        refine ⟨?_, HB3.out⟩
        rw [decide_eq_false H5.out]
        first
          | rfl
          | (show Ending.returned (.bool (decide ((n : Int) ≤ 500))) = _; rw [decide_eq_false (show ¬ (n : Int) ≤ 500 by omega)]; rfl)
theorem bare_any (T : Sts) (v : Value) (S : Nat → Prop) (w : World) (h8 : T.b8) (hn : T.all < 2 ^ 60) (hT : Tr w S v T) :
    Calls Try.prog 12 #[v] w fun e w' => e = .returned (.bool (rightT false T)) ∧ Below w.heap.size w w' := by
  obtain ⟨A1, c1, rfl, -, -⟩ := hT.frm
  have HR := Lib.hid (rightT_any false T _ S w h8 hn hT)
  clear h8 hn hT
  go_enter Try.func12, Try.ntmps12
  go_wp2_with fail
  refine HR.out.mono ?_
  rintro e w2 ⟨rfl, hb⟩
  have HB := Lib.hid hb
  clear hb
  go_wp2_with fail
  go_ret
  exact ⟨rfl, HB.out⟩
set_option maxRecDepth 100000 in
set_option maxHeartbeats 8000000 in
theorem configT_any (c : CfgS) (vp vc vq : Value) (S : Nat → Prop) (w : World) (hvp : ∃ A n k, vp = .slice A n k) (h8 : c.code.b8 ∧ c.post.b8) (hn : c.code.all < 2 ^ 60 ∧ c.post.all < 2 ^ 60) (hc : Tr w S vc c.code) (hq : Tr w S vq c.post) :
    Calls Try.prog 13 #[.agg (cfgA c.h c.m c.ph c.pm vp vc vq c.has)] w fun e w' => e = .returned (.bool (configT c)) ∧ Below w.heap.size w w' := by
  obtain ⟨A1, n1, d1, rfl⟩ := hvp
  obtain ⟨A3, n3, rfl, -, -⟩ := hc.frm
  obtain ⟨A5, n5, rfl, -, -⟩ := hq.frm
  have HC := Lib.hid hc
  have HQ := Lib.hid hq
  have HX := Lib.hid (And.intro h8 hn)
  obtain ⟨z, hz⟩ : ∃ z, z = (decide (c.post.len = 0) && decide (c.ph = 0) && decide (c.pm = 0)) := ⟨_, rfl⟩
  obtain ⟨x1, hx1⟩ : ∃ x, x = rightT false c.code := ⟨_, rfl⟩
  obtain ⟨x2, hx2⟩ : ∃ x, x = rightT true c.post := ⟨_, rfl⟩
  unfold configT
  rw [← hz, ← hx1, ← hx2]
  have H1 := Lib.hid (fun W (hb : Below w.heap.size w W) => hx1 ▸ rightT_any false c.code _ S W h8.1 hn.1 (hc.below hb))
  have H2 := Lib.hid (fun W (hb : Below w.heap.size w W) => hx2 ▸ rightT_any true c.post _ S W h8.2 hn.2 (hq.below hb))
  have main : (((c.post.len : Int) == 0) = false ∧ z = false) ∨ (((c.post.len : Int) == 0) = true ∧ (c.ph == 0) = false ∧ z = false) ∨ (((c.post.len : Int) == 0) = true ∧ (c.ph == 0) = true ∧ (c.pm == 0) = false ∧ z = false) ∨ (((c.post.len : Int) == 0) = true ∧ (c.ph == 0) = true ∧ (c.pm == 0) = true ∧ z = true) := by
    rw [hz]
    by_cases h1 : c.post.len = 0
    · have e1 : ((c.post.len : Int) == 0) = true := by rw [h1]; rfl
      by_cases h2 : c.ph = 0
      · by_cases h3 : c.pm = 0
        · simp [h1, h2, h3]
        · simp [h1, h2, h3]
      · simp [h1, h2]
    · have e1 : ((c.post.len : Int) == 0) = false := by rw [beq_eq_false_iff_ne]; omega
      exact .inl ⟨e1, by simp [h1]⟩
  have hb1 : Below w.heap.size w (w.alloc (.cells (cfgA c.h c.m c.ph c.pm (.slice A1 n1 d1) (.slice A3 c.code.len n3) (.slice A5 c.post.len n5) c.has) 25)) := (Below.refl _ _).alloc (Nat.le_refl _) _
  have HB1 := Lib.hid hb1
  have HCR := Lib.hid (cfg_row (heap_alloc_new w (.cells (cfgA c.h c.m c.ph c.pm (.slice A1 n1 d1) (.slice A3 c.code.len n3) (.slice A5 c.post.len n5) c.has) 25)))
  clear hc hq h8 hn HC HQ HX hz hx1 hx2 hb1
  unfold cfgA at *
  generalize c.has = hs at *
  rcases main with ⟨i1, rfl⟩ | ⟨i1, i2, rfl⟩ | ⟨i1, i2, i3, rfl⟩ | ⟨i1, i2, i3, rfl⟩
  all_goals
    go_enter Try.func13, Try.ntmps13
    go_wp2_with fail
    refine (H1.out _ HB1.out).mono ?_
    rintro e w2 ⟨rfl, hb2⟩
    have hr2 := below_row hb2 HCR.out HCR.out.lt
    have HR2 := Lib.hid hr2
    have HB2 := Lib.hid (HB1.out.trans (hb2.mono HB1.out.size))
    have c6 : w2.cell? ⟨w.heap.size, 6, none⟩ = some (.slice A5 c.post.len n5) := hr2.cell (by omega)
    clear hr2 hb2
    cases x1 with
    | false =>
      go_wp2_with fail
      go_ret
      exact ⟨rfl, HB2.out⟩
    | true =>
      go_wp2_with fail
      refine (H2.out _ HB2.out).mono ?_
      rintro e w3 ⟨rfl, hb3⟩
      have hr3 := below_row hb3 HR2.out HR2.out.lt
      have HB3 := Lib.hid (HB2.out.trans (hb3.mono HB2.out.size))
      have c7 : w3.cell? ⟨w.heap.size, 7, none⟩ = some (.bool hs) := hr3.cell (by omega)
      clear hr3 hb3
      cases x2 with
      | false =>
        go_wp2_with fail
        go_ret
        exact ⟨rfl, HB3.out⟩
      | true =>
        cases hs with
        | false =>
          go_wp2_with fail
          go_ret
          exact ⟨rfl, HB3.out⟩
        | true =>
          go_wp2_with fail
          go_ret
          exact ⟨rfl, HB3.out⟩
end Go.Proofs.Ytiadfmhodlbkiaa
