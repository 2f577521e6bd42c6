/-
  THE WALK OF parse.Parse, first part: a config's row; a text that has no tokens. Conditions: none.
-/
import Derived.Test.YtiadfmhodlbkiaaParP2
import Derived.Test.YtiadfmhodlbkiaaPrL
import Derived.Test.YtiadfmhodlbkiaaLexW4
import Derived.BigQuiet
import Derived.Deep.QuietTactic
import Derived.Deep.RegionHeld3
namespace Go.Proofs.Ytiadfmhodlbkiaa
open Go.RowKit
set_option linter.unusedSimpArgs false
set_option linter.unusedVariables false
def cfgF (h m ph pm : Int) (vp vc vq : Value) (has : Bool) : Nat → Value
  | 0 => .int .i64 h
  | 1 => .int .i64 m
  | 2 => .int .i64 ph
  | 3 => .int .i64 pm
  | 4 => vp
  | 5 => vc
  | 6 => vq
  | _ => .bool has
def cfgA (h m ph pm : Int) (vp vc vq : Value) (has : Bool) : Array Value := #[.int .i64 h, .int .i64 m, .int .i64 ph, .int .i64 pm, vp, vc, vq, .bool has]
theorem cfg_row {w : World} {g : Nat} {t : TypeId} {h m ph pm : Int} {vp vc vq : Value} {has : Bool} (hh : w.heap[g]? = some (.cells (cfgA h m ph pm vp vc vq has) t (0, 0))) : w.rowIs g t 8 (cfgF h m ph pm vp vc vq has) := ⟨_, hh, rfl, fun i hi => by
  match i, hi with
  | 0, _ => rfl
  | 1, _ => rfl
  | 2, _ => rfl
  | 3, _ => rfl
  | 4, _ => rfl
  | 5, _ => rfl
  | 6, _ => rfl
  | 7, _ => rfl⟩
theorem cfg_heap {w : World} {g : Nat} {t : TypeId} {h m ph pm : Int} {vp vc vq : Value} {has : Bool} (hr : w.rowIs g t 8 (cfgF h m ph pm vp vc vq has)) : w.heap[g]? = some (.cells (cfgA h m ph pm vp vc vq has) t (0, 0)) := by
  obtain ⟨cs, h1, h2, h3⟩ := hr
  rw [h1]
  have : cs = cfgA h m ph pm vp vc vq has := by
    apply Array.ext (by rw [h2]; rfl)
    intro i hi1 hi2
    have h4 := h3 i (by omega)
    have e : (cfgA h m ph pm vp vc vq has)[i]? = some (cfgF h m ph pm vp vc vq has i) := by
      rw [h2] at hi1
      match i, hi1 with
      | 0, _ => rfl
      | 1, _ => rfl
      | 2, _ => rfl
      | 3, _ => rfl
      | 4, _ => rfl
      | 5, _ => rfl
      | 6, _ => rfl
      | 7, _ => rfl
    rw [← e, Array.getElem?_eq_getElem hi1, Array.getElem?_eq_getElem hi2] at h4
    exact Option.some.inj h4
  rw [this]
def fltF (e ln : Int) : Nat → Value
  | 0 => .int .i64 e
  | _ => .int .i64 ln
theorem flt_row {w : World} {g : Nat} {t : TypeId} {e ln : Int} (hh : w.heap[g]? = some (.cells #[.int .i64 e, .int .i64 ln] t (0, 0))) : w.rowIs g t 2 (fltF e ln) := ⟨_, hh, rfl, fun i hi => by
  match i, hi with
  | 0, _ => rfl
  | 1, _ => rfl⟩
theorem flt_heap {w : World} {g : Nat} {t : TypeId} {e ln : Int} (hr : w.rowIs g t 2 (fltF e ln)) : w.heap[g]? = some (.cells #[.int .i64 e, .int .i64 ln] t (0, 0)) := by
  obtain ⟨cs, h1, h2, h3⟩ := hr
  rw [h1]
  have : cs = #[.int .i64 e, .int .i64 ln] := by
    apply Array.ext (by rw [h2]; rfl)
    intro i hi1 hi2
    have h4 := h3 i (by omega)
    have e : (#[Value.int .i64 e, .int .i64 ln])[i]? = some (fltF e ln i) := by
      rw [h2] at hi1
      match i, hi1 with
      | 0, _ => rfl
      | 1, _ => rfl
    rw [← e, Array.getElem?_eq_getElem hi1, Array.getElem?_eq_getElem hi2] at h4
    exact Option.some.inj h4
  rw [this]
theorem cfg_size : (Try.prog.info? 25).map (·.size) = some 8 := by kernel_rfl
theorem flt_size : (Try.prog.info? 28).map (·.size) = some 2 := by kernel_rfl
/-- Two results in cells: a config, a fault. -/
theorem cf_results {fn : Func} {p q : Tmp} (h : fn.results = #[.cell p 25, .cell q 28]) (tmps : Array Value) (w : World) (g1 g2 : Nat) {a b c d : Int} {vp vc vq : Value} {has : Bool} {e ln : Int}
    (hp : tmps.getD p undef = .pointer (some ⟨g1, 0, none⟩)) (hq : tmps.getD q undef = .pointer (some ⟨g2, 0, none⟩)) (hr : w.rowIs g1 25 8 (cfgF a b c d vp vc vq has)) (hs : w.rowIs g2 28 2 (fltF e ln)) :
    (results fn tmps).run Try.prog w = .ok (.tuple #[.agg (cfgA a b c d vp vc vq has), .agg #[.int .i64 e, .int .i64 ln]]) w := by
  have hp' : tmps[p]?.getD undef = .pointer (some ⟨g1, 0, none⟩) := by simpa using hp
  have hq' : tmps[q]?.getD undef = .pointer (some ⟨g2, 0, none⟩) := by simpa using hq
  simp [results, h, hp', hq', asAddr, run_loadVar_row w g1 25 25 _ _ _ (cfg_heap hr) Try.underlying25 rfl cfg_size, run_loadVar_row w g2 28 28 _ _ _ (flt_heap hs) Try.underlying28 rfl flt_size]
theorem cfg_all {w : World} {g : Nat} {t : TypeId} {f : Nat → Value} (h m ph pm : Int) (vp vc vq : Value) (has : Bool) (hr : w.rowIs g t 8 f) :
    ((((((((w.setCell ⟨g, 0, none⟩ (.int .i64 h)).setCell ⟨g, 1, none⟩ (.int .i64 m)).setCell ⟨g, 2, none⟩ (.int .i64 ph)).setCell ⟨g, 3, none⟩ (.int .i64 pm)).setCell ⟨g, 4, none⟩ vp).setCell ⟨g, 5, none⟩ vc).setCell ⟨g, 6, none⟩ vq).setCell ⟨g, 7, none⟩ (.bool has)).rowIs g t 8 (cfgF h m ph pm vp vc vq has) :=
  ((((((((hr.set 0 _).set 1 _).set 2 _).set 3 _).set 4 _).set 5 _).set 6 _).set 7 _).congr fun i hi => by
    match i, hi with
    | 0, _ => rfl
    | 1, _ => rfl
    | 2, _ => rfl
    | 3, _ => rfl
    | 4, _ => rfl
    | 5, _ => rfl
    | 6, _ => rfl
    | 7, _ => rfl
theorem flt_all {w : World} {g : Nat} {t : TypeId} {f : Nat → Value} (e ln : Int) (hr : w.rowIs g t 2 f) : ((w.setCell ⟨g, 0, none⟩ (.int .i64 e)).setCell ⟨g, 1, none⟩ (.int .i64 ln)).rowIs g t 2 (fltF e ln) :=
  ((hr.set 0 _).set 1 _).congr fun i hi => by
    match i, hi with
    | 0, _ => rfl
    | 1, _ => rfl
theorem row_sets8 (w : World) (g : Nat) (h m ph pm : Int) (vp vc vq : Value) (has : Bool) :
    w.grownBy ((((((((w.setCell ⟨g, 0, none⟩ (.int .i64 h)).setCell ⟨g, 1, none⟩ (.int .i64 m)).setCell ⟨g, 2, none⟩ (.int .i64 ph)).setCell ⟨g, 3, none⟩ (.int .i64 pm)).setCell ⟨g, 4, none⟩ vp).setCell ⟨g, 5, none⟩ vc).setCell ⟨g, 6, none⟩ vq).setCell ⟨g, 7, none⟩ (.bool has)) (some g) :=
  (grown_set (grown_set (grown_set (grown_set (grown_set (grown_set (grown_set (grown_set (grown_refl w (some g)) (.inl rfl) (p := ⟨g, 0, none⟩) (.int .i64 h)) (.inl rfl) (p := ⟨g, 1, none⟩) (.int .i64 m)) (.inl rfl) (p := ⟨g, 2, none⟩) (.int .i64 ph)) (.inl rfl) (p := ⟨g, 3, none⟩) (.int .i64 pm)) (.inl rfl) (p := ⟨g, 4, none⟩) (vp)) (.inl rfl) (p := ⟨g, 5, none⟩) (vc)) (.inl rfl) (p := ⟨g, 6, none⟩) (vq)) (.inl rfl) (p := ⟨g, 7, none⟩) (.bool has))
theorem row_other {w : World} {g t n g' : Nat} {f : Nat → Value} (h : w.rowIs g t n f) (hne : g ≠ g') (k : Nat) (u : Value) : (w.setCell ⟨g', k, none⟩ u).rowIs g t n f :=
  h.of_block (Below.heap_setCell w ⟨g', k, none⟩ u g hne)
def nilV : Value := .slice none 0 0
set_option maxRecDepth 100000 in
set_option maxHeartbeats 8000000 in
theorem parse_bad (s : ByteArray) (w : World) (e0 ln : Nat) (h0 : e0 ≠ 0) (hT : ∀ W, Calls Try.prog 14 #[.string s] W fun e w' => e = .returned (.tuple #[.slice none 0 0, .agg #[.int .i64 e0, .int .i64 ln]]) ∧ Below W.heap.size W w') :
    Calls Try.prog 7 #[.string s] w fun e w' => e = .returned (.tuple #[.agg (cfgA 0 0 0 0 (.slice none 0 0) (.slice none 0 0) (.slice none 0 0) false), .agg #[.int .i64 e0, .int .i64 ln]]) ∧ Below w.heap.size w w' := by
  have hne : ((e0 : Int) != 0) = true := by rw [bne_iff_ne]; omega
  go_enter Try.func7, Try.ntmps7
  go_wp2_with fail
  have hb1 : Below w.heap.size w (w.alloc (.cells #[.int .i64 0, .int .i64 0, .int .i64 0, .int .i64 0, .slice none 0 0, .slice none 0 0, .slice none 0 0, .bool false] 25)) := (Below.refl _ _).alloc (Nat.le_refl _) _
  have hr2 := cfg_row (h := 0) (m := 0) (ph := 0) (pm := 0) (vp := .slice none 0 0) (vc := .slice none 0 0) (vq := .slice none 0 0) (has := false) (heap_alloc_new w (.cells #[.int .i64 0, .int .i64 0, .int .i64 0, .int .i64 0, .slice none 0 0, .slice none 0 0, .slice none 0 0, .bool false] 25))
  have e1 : (w.alloc (.cells #[.int .i64 0, .int .i64 0, .int .i64 0, .int .i64 0, .slice none 0 0, .slice none 0 0, .slice none 0 0, .bool false] 25)).heap.size = w.heap.size + 1 := World.size_alloc _ _
  generalize w.alloc (.cells #[.int .i64 0, .int .i64 0, .int .i64 0, .int .i64 0, .slice none 0 0, .slice none 0 0, .slice none 0 0, .bool false] 25) = W1 at *
  have hb2 : Below W1.heap.size W1 (W1.alloc (.cells #[.int .i64 0, .int .i64 0] 28)) := (Below.refl _ _).alloc (Nat.le_refl _) _
  have hr22 := below_row hb2 hr2 hr2.lt
  have hr3 := flt_row (heap_alloc_new W1 (.cells #[.int .i64 0, .int .i64 0] 28))
  have hb3 := hb1.trans (hb2.mono hb1.size)
  rw [show w.heap.size + 1 = W1.heap.size by omega]
  generalize W1.alloc (.cells #[.int .i64 0, .int .i64 0] 28) = W2 at *
  generalize W1.heap.size = g3 at *
  obtain ⟨g2, hg2e⟩ : ∃ g2, g2 = w.heap.size := ⟨_, rfl⟩
  rw [← hg2e] at hr22 e1 ⊢
  have HE := Lib.hid (And.intro hg2e e1)
  have HR2 := Lib.hid hr22
  have HR3 := Lib.hid hr3
  have HB3 := Lib.hid hb3
  clear hr22 hr3 hb3 hb1 hb2 hr2 e1 hg2e W1
  refine (hT W2).mono ?_
  rintro e W3 ⟨rfl, hb⟩
  have hb4 : Below W2.heap.size W2 (W3.alloc (.cells #[.int .i64 e0, .int .i64 ln] 28)) := hb.alloc hb.size _
  have r2 := below_row hb4 HR2.out HR2.out.lt
  have r3 := below_row hb4 HR3.out HR3.out.lt
  have hB := HB3.out.trans (hb4.mono HB3.out.size)
  have HR24 := Lib.hid r2
  have HR34 := Lib.hid r3
  have HB4 := Lib.hid hB
  have a0 := r2.cell (show 0 < 8 by omega)
  have a1 := r2.cell (show 1 < 8 by omega)
  have a2 := r2.cell (show 2 < 8 by omega)
  have a3 := r2.cell (show 3 < 8 by omega)
  have a4 := r2.cell (show 4 < 8 by omega)
  have a5 := r2.cell (show 5 < 8 by omega)
  have a6 := r2.cell (show 6 < 8 by omega)
  have a7 := r2.cell (show 7 < 8 by omega)
  have b0 := r3.cell (show 0 < 2 by omega)
  have b1 := r3.cell (show 1 < 2 by omega)
  have z0 := r2.frozen 0
  have z1 := r2.frozen 1
  have z2 := r2.frozen 2
  have z3 := r2.frozen 3
  have z4 := r2.frozen 4
  have z5 := r2.frozen 5
  have z6 := r2.frozen 6
  have z7 := r2.frozen 7
  have y0 := r3.frozen 0
  have y1 := r3.frozen 1
  dsimp only [cfgF, fltF] at a0 a1 a2 a3 a4 a5 a6 a7 b0 b1
  have c0 : (W3.alloc (.cells #[.int .i64 e0, .int .i64 ln] 28)).cell? ⟨W3.heap.size, 0, none⟩ = some (.int .i64 e0) := by rw [cell_of_row _ _ _ _ _ _ (heap_alloc_new W3 _)]; rfl
  have c1 : (W3.alloc (.cells #[.int .i64 e0, .int .i64 ln] 28)).cell? ⟨W3.heap.size, 1, none⟩ = some (.int .i64 ln) := by rw [cell_of_row _ _ _ _ _ _ (heap_alloc_new W3 _)]; rfl
  have n25 : g2 ≠ W3.heap.size := by have := HR2.out.lt; have := hb.size; omega
  have n35 : g3 ≠ W3.heap.size := by have := HR3.out.lt; have := hb.size; omega
  have n23 : g2 ≠ g3 := by have := HE.out; omega
  clear r2 r3 hb hb4 hB
  go_wp2_with fail
  generalize W3.alloc (.cells #[.int .i64 e0, .int .i64 ln] 28) = W4 at *
  generalize W3.heap.size = g5 at *
  go_region_with (fail)
  all_goals
    have q2 := cfg_all (0) (0) (0) (0) (.slice none 0 0) (.slice none 0 0) (.slice none 0 0) false HR24.out
    have q3' := flt_all (g := g3) (e0) (ln) (grown_row (g := g2) (row_sets8 W4 g2 (0) (0) (0) (0) (.slice none 0 0) (.slice none 0 0) (.slice none 0 0) false) HR34.out (by have := HE.out; omega))
    have q2' := row_other (row_other q2 (by have := HE.out; omega : g2 ≠ g3) 0 (.int .i64 (e0))) (by have := HE.out; omega : g2 ≠ g3) 1 (.int .i64 (ln))
    have qb := (Below.setCell (Below.setCell (Below.setCell (Below.setCell (Below.setCell (Below.setCell (Below.setCell (Below.setCell (Below.setCell (Below.setCell HB4.out (p := ⟨g2, 0, none⟩) (Nat.le_of_eq HE.out.1.symm) (.int .i64 0)) (p := ⟨g2, 1, none⟩) (Nat.le_of_eq HE.out.1.symm) (.int .i64 0)) (p := ⟨g2, 2, none⟩) (Nat.le_of_eq HE.out.1.symm) (.int .i64 0)) (p := ⟨g2, 3, none⟩) (Nat.le_of_eq HE.out.1.symm) (.int .i64 0)) (p := ⟨g2, 4, none⟩) (Nat.le_of_eq HE.out.1.symm) (.slice none 0 0)) (p := ⟨g2, 5, none⟩) (Nat.le_of_eq HE.out.1.symm) (.slice none 0 0)) (p := ⟨g2, 6, none⟩) (Nat.le_of_eq HE.out.1.symm) (.slice none 0 0)) (p := ⟨g2, 7, none⟩) (Nat.le_of_eq HE.out.1.symm) (.bool false)) (p := ⟨g3, 0, none⟩) (by have := HE.out; show w.heap.size ≤ g3; omega) (.int .i64 e0)) (p := ⟨g3, 1, none⟩) (by have := HE.out; show w.heap.size ≤ g3; omega) (.int .i64 ln))
    go_wp2
    (try simp only [Exit.inBlock, Exit.then])
    have q2 := rowIs_drewN' q2' 1
    have q3 := rowIs_drewN' q3' 1
    have qb := below_drewN' qb 1
    rw [show ∀ W : World, W.drewN 1 = W.drew from fun _ => rfl] at q2 q3 qb
    generalize (World.drew (World.setCell (World.setCell (World.setCell (World.setCell (World.setCell (World.setCell (World.setCell (World.setCell (World.setCell (World.setCell W4 ⟨g2, 0, none⟩ (.int .i64 0)) ⟨g2, 1, none⟩ (.int .i64 0)) ⟨g2, 2, none⟩ (.int .i64 0)) ⟨g2, 3, none⟩ (.int .i64 0)) ⟨g2, 4, none⟩ (.slice none 0 0)) ⟨g2, 5, none⟩ (.slice none 0 0)) ⟨g2, 6, none⟩ (.slice none 0 0)) ⟨g2, 7, none⟩ (.bool false)) ⟨g3, 0, none⟩ (.int .i64 e0)) ⟨g3, 1, none⟩ (.int .i64 ln))) = W9 at q2 q3 qb ⊢
    exact bodyPost_ret (cf_results rfl _ _ g2 g3 rfl rfl q2 q3) rfl ⟨rfl, qb⟩
end Go.Proofs.Ytiadfmhodlbkiaa
