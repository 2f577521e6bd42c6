/-
  THE WALK OF parse.Parse, first part: a config's row; a text that has no tokens. Conditions: none.
  THE WALK OF quillpresskit.SameStmts: of trees that are the same (but for lines, where these do not count) it tells true. Conditions: the slices read as the trees.
  THE WALKS OF quillpresskit.SameParts, SameConfig: of configs that are the same (but for lines, where these do not count) they tell true. Conditions: the slices read so.
  WHAT A RIGHT TREE IS. Plain. Conditions: none.
-/
import Derived.Test.YthmpagehmfillaaQ20
import Derived.Test.YthmpagehmfillaaQ21
import Derived.BigQuiet
import Derived.Deep.QuietTactic
import Derived.Deep.RegionHeld3
import Derived.Test.YthmpagehmfillaaQ05
import Derived.Deep.RegionWith
import Derived.Deep.DeepCutAuto
import Derived.Test.YthmpagehmfillaaQ02
namespace Go.Proofs.Ythmpagehmfillaa
open Go.RowKit
set_option linter.unusedSimpArgs false
set_option linter.unusedVariables false
def cfgF (h m ph pm : Int) (vp vc vq : Value) (has : Bool) : Nat → Value
  | 0 => .int .i64 h
  | 1 => .int .i64 m
  | 2 => .int .i64 ph
  | 3 => .int .i64 pm
  | 4 => vp
  | 5 => vc
  | 6 => vq
  | _ => .bool has
def cfgA (h m ph pm : Int) (vp vc vq : Value) (has : Bool) : Array Value := #[.int .i64 h, .int .i64 m, .int .i64 ph, .int .i64 pm, vp, vc, vq, .bool has]
theorem cfg_row {w : World} {g : Nat} {t : TypeId} {h m ph pm : Int} {vp vc vq : Value} {has : Bool} (hh : w.heap[g]? = some (.cells (cfgA h m ph pm vp vc vq has) t (0, 0))) : w.rowIs g t 8 (cfgF h m ph pm vp vc vq has) := ⟨_, hh, rfl, fun i hi => by
  match i, hi with
  | 0, _ => rfl
  | 1, _ => rfl
  | 2, _ => rfl
  | 3, _ => rfl
  | 4, _ => rfl
  | 5, _ => rfl
  | 6, _ => rfl
  | 7, _ => rfl⟩
theorem cfg_heap {w : World} {g : Nat} {t : TypeId} {h m ph pm : Int} {vp vc vq : Value} {has : Bool} (hr : w.rowIs g t 8 (cfgF h m ph pm vp vc vq has)) : w.heap[g]? = some (.cells (cfgA h m ph pm vp vc vq has) t (0, 0)) := by
  obtain ⟨cs, h1, h2, h3⟩ := hr
  rw [h1]
  have : cs = cfgA h m ph pm vp vc vq has := by
    apply Array.ext (by rw [h2]; rfl)
    intro i hi1 hi2
    have h4 := h3 i (by omega)
    have e : (cfgA h m ph pm vp vc vq has)[i]? = some (cfgF h m ph pm vp vc vq has i) := by
      rw [h2] at hi1
      match i, hi1 with
      | 0, _ => rfl
      | 1, _ => rfl
      | 2, _ => rfl
      | 3, _ => rfl
      | 4, _ => rfl
      | 5, _ => rfl
      | 6, _ => rfl
      | 7, _ => rfl
    rw [← e, Array.getElem?_eq_getElem hi1, Array.getElem?_eq_getElem hi2] at h4
    exact Option.some.inj h4
  rw [this]
def fltF (e ln : Int) : Nat → Value
  | 0 => .int .i64 e
  | _ => .int .i64 ln
theorem flt_row {w : World} {g : Nat} {t : TypeId} {e ln : Int} (hh : w.heap[g]? = some (.cells #[.int .i64 e, .int .i64 ln] t (0, 0))) : w.rowIs g t 2 (fltF e ln) := ⟨_, hh, rfl, fun i hi => by
  match i, hi with
  | 0, _ => rfl
  | 1, _ => rfl⟩
theorem flt_heap {w : World} {g : Nat} {t : TypeId} {e ln : Int} (hr : w.rowIs g t 2 (fltF e ln)) : w.heap[g]? = some (.cells #[.int .i64 e, .int .i64 ln] t (0, 0)) := by
  obtain ⟨cs, h1, h2, h3⟩ := hr
  rw [h1]
  have : cs = #[.int .i64 e, .int .i64 ln] := by
    apply Array.ext (by rw [h2]; rfl)
    intro i hi1 hi2
    have h4 := h3 i (by omega)
    have e : (#[Value.int .i64 e, .int .i64 ln])[i]? = some (fltF e ln i) := by
      rw [h2] at hi1
      match i, hi1 with
      | 0, _ => rfl
      | 1, _ => rfl
    rw [← e, Array.getElem?_eq_getElem hi1, Array.getElem?_eq_getElem hi2] at h4
    exact Option.some.inj h4
  rw [this]
theorem cfg_size : (Try.prog.info? 62).map (·.size) = some 8 := by kernel_rfl
theorem flt_size : (Try.prog.info? 29).map (·.size) = some 2 := by kernel_rfl
/-- Two results in cells: a config, a fault. -/
theorem cf_results {fn : Func} {p q : Tmp} (h : fn.results = #[.cell p 62, .cell q 29]) (tmps : Array Value) (w : World) (g1 g2 : Nat) {a b c d : Int} {vp vc vq : Value} {has : Bool} {e ln : Int}
    (hp : tmps.getD p undef = .pointer (some ⟨g1, 0, none⟩)) (hq : tmps.getD q undef = .pointer (some ⟨g2, 0, none⟩)) (hr : w.rowIs g1 62 8 (cfgF a b c d vp vc vq has)) (hs : w.rowIs g2 29 2 (fltF e ln)) :
    (results fn tmps).run Try.prog w = .ok (.tuple #[.agg (cfgA a b c d vp vc vq has), .agg #[.int .i64 e, .int .i64 ln]]) w := by
  have hp' : tmps[p]?.getD undef = .pointer (some ⟨g1, 0, none⟩) := by simpa using hp
  have hq' : tmps[q]?.getD undef = .pointer (some ⟨g2, 0, none⟩) := by simpa using hq
  simp [results, h, hp', hq', asAddr, run_loadVar_row w g1 62 62 _ _ _ (cfg_heap hr) Try.underlying62 rfl cfg_size, run_loadVar_row w g2 29 29 _ _ _ (flt_heap hs) Try.underlying29 rfl flt_size]
theorem cfg_all {w : World} {g : Nat} {t : TypeId} {f : Nat → Value} (h m ph pm : Int) (vp vc vq : Value) (has : Bool) (hr : w.rowIs g t 8 f) :
    ((((((((w.setCell ⟨g, 0, none⟩ (.int .i64 h)).setCell ⟨g, 1, none⟩ (.int .i64 m)).setCell ⟨g, 2, none⟩ (.int .i64 ph)).setCell ⟨g, 3, none⟩ (.int .i64 pm)).setCell ⟨g, 4, none⟩ vp).setCell ⟨g, 5, none⟩ vc).setCell ⟨g, 6, none⟩ vq).setCell ⟨g, 7, none⟩ (.bool has)).rowIs g t 8 (cfgF h m ph pm vp vc vq has) :=
  ((((((((hr.set 0 _).set 1 _).set 2 _).set 3 _).set 4 _).set 5 _).set 6 _).set 7 _).congr fun i hi => by
    match i, hi with
    | 0, _ => rfl
    | 1, _ => rfl
    | 2, _ => rfl
    | 3, _ => rfl
    | 4, _ => rfl
    | 5, _ => rfl
    | 6, _ => rfl
    | 7, _ => rfl
theorem flt_all {w : World} {g : Nat} {t : TypeId} {f : Nat → Value} (e ln : Int) (hr : w.rowIs g t 2 f) : ((w.setCell ⟨g, 0, none⟩ (.int .i64 e)).setCell ⟨g, 1, none⟩ (.int .i64 ln)).rowIs g t 2 (fltF e ln) :=
  ((hr.set 0 _).set 1 _).congr fun i hi => by
    match i, hi with
    | 0, _ => rfl
    | 1, _ => rfl
theorem row_sets8 (w : World) (g : Nat) (h m ph pm : Int) (vp vc vq : Value) (has : Bool) :
    w.grownBy ((((((((w.setCell ⟨g, 0, none⟩ (.int .i64 h)).setCell ⟨g, 1, none⟩ (.int .i64 m)).setCell ⟨g, 2, none⟩ (.int .i64 ph)).setCell ⟨g, 3, none⟩ (.int .i64 pm)).setCell ⟨g, 4, none⟩ vp).setCell ⟨g, 5, none⟩ vc).setCell ⟨g, 6, none⟩ vq).setCell ⟨g, 7, none⟩ (.bool has)) (some g) :=
  (grown_set (grown_set (grown_set (grown_set (grown_set (grown_set (grown_set (grown_set (grown_refl w (some g)) (.inl rfl) (p := ⟨g, 0, none⟩) (.int .i64 h)) (.inl rfl) (p := ⟨g, 1, none⟩) (.int .i64 m)) (.inl rfl) (p := ⟨g, 2, none⟩) (.int .i64 ph)) (.inl rfl) (p := ⟨g, 3, none⟩) (.int .i64 pm)) (.inl rfl) (p := ⟨g, 4, none⟩) (vp)) (.inl rfl) (p := ⟨g, 5, none⟩) (vc)) (.inl rfl) (p := ⟨g, 6, none⟩) (vq)) (.inl rfl) (p := ⟨g, 7, none⟩) (.bool has))
theorem row_other {w : World} {g t n g' : Nat} {f : Nat → Value} (h : w.rowIs g t n f) (hne : g ≠ g') (k : Nat) (u : Value) : (w.setCell ⟨g', k, none⟩ u).rowIs g t n f :=
  h.of_block (Below.heap_setCell w ⟨g', k, none⟩ u g hne)
def nilV : Value := .slice none 0 0
set_option maxRecDepth 100000 in
set_option maxHeartbeats 8000000 in
theorem parse_bad (s : ByteArray) (w : World) (e0 ln : Nat) (h0 : e0 ≠ 0) (hT : ∀ W, Calls Try.prog 36 #[.string s] W fun e w' => e = .returned (.tuple #[.slice none 0 0, .agg #[.int .i64 e0, .int .i64 ln]]) ∧ Below W.heap.size W w') :
    Calls Try.prog 16 #[.string s] w fun e w' => e = .returned (.tuple #[.agg (cfgA 0 0 0 0 (.slice none 0 0) (.slice none 0 0) (.slice none 0 0) false), .agg #[.int .i64 e0, .int .i64 ln]]) ∧ Below w.heap.size w w' := by
  have hne : ((e0 : Int) != 0) = true := by rw [bne_iff_ne]; omega
  go_enter Try.func16, Try.ntmps16
  go_wp2_with fail
  have hb1 : Below w.heap.size w (w.alloc (.cells #[.int .i64 0, .int .i64 0, .int .i64 0, .int .i64 0, .slice none 0 0, .slice none 0 0, .slice none 0 0, .bool false] 62)) := (Below.refl _ _).alloc (Nat.le_refl _) _
  have hr2 := cfg_row (h := 0) (m := 0) (ph := 0) (pm := 0) (vp := .slice none 0 0) (vc := .slice none 0 0) (vq := .slice none 0 0) (has := false) (heap_alloc_new w (.cells #[.int .i64 0, .int .i64 0, .int .i64 0, .int .i64 0, .slice none 0 0, .slice none 0 0, .slice none 0 0, .bool false] 62))
  have e1 : (w.alloc (.cells #[.int .i64 0, .int .i64 0, .int .i64 0, .int .i64 0, .slice none 0 0, .slice none 0 0, .slice none 0 0, .bool false] 62)).heap.size = w.heap.size + 1 := World.size_alloc _ _
  generalize w.alloc (.cells #[.int .i64 0, .int .i64 0, .int .i64 0, .int .i64 0, .slice none 0 0, .slice none 0 0, .slice none 0 0, .bool false] 62) = W1 at *
  have hb2 : Below W1.heap.size W1 (W1.alloc (.cells #[.int .i64 0, .int .i64 0] 29)) := (Below.refl _ _).alloc (Nat.le_refl _) _
  have hr22 := below_row hb2 hr2 hr2.lt
  have hr3 := flt_row (heap_alloc_new W1 (.cells #[.int .i64 0, .int .i64 0] 29))
  have hb3 := hb1.trans (hb2.mono hb1.size)
  rw [show w.heap.size + 1 = W1.heap.size by omega]
  generalize W1.alloc (.cells #[.int .i64 0, .int .i64 0] 29) = W2 at *
  generalize W1.heap.size = g3 at *
  obtain ⟨g2, hg2e⟩ : ∃ g2, g2 = w.heap.size := ⟨_, rfl⟩
  rw [← hg2e] at hr22 e1 ⊢
  have HE := Lib.hid (And.intro hg2e e1)
  have HR2 := Lib.hid hr22
  have HR3 := Lib.hid hr3
  have HB3 := Lib.hid hb3
  clear hr22 hr3 hb3 hb1 hb2 hr2 e1 hg2e W1
  refine (hT W2).mono ?_
  rintro e W3 ⟨rfl, hb⟩
  have hb4 : Below W2.heap.size W2 (W3.alloc (.cells #[.int .i64 e0, .int .i64 ln] 29)) := hb.alloc hb.size _
  have r2 := below_row hb4 HR2.out HR2.out.lt
  have r3 := below_row hb4 HR3.out HR3.out.lt
  have hB := HB3.out.trans (hb4.mono HB3.out.size)
  have HR24 := Lib.hid r2
  have HR34 := Lib.hid r3
  have HB4 := Lib.hid hB
  have a0 := r2.cell (show 0 < 8 by omega)
  have a1 := r2.cell (show 1 < 8 by omega)
  have a2 := r2.cell (show 2 < 8 by omega)
  have a3 := r2.cell (show 3 < 8 by omega)
  have a4 := r2.cell (show 4 < 8 by omega)
  have a5 := r2.cell (show 5 < 8 by omega)
  have a6 := r2.cell (show 6 < 8 by omega)
  have a7 := r2.cell (show 7 < 8 by omega)
  have b0 := r3.cell (show 0 < 2 by omega)
  have b1 := r3.cell (show 1 < 2 by omega)
  have z0 := r2.frozen 0
  have z1 := r2.frozen 1
  have z2 := r2.frozen 2
  have z3 := r2.frozen 3
  have z4 := r2.frozen 4
  have z5 := r2.frozen 5
  have z6 := r2.frozen 6
  have z7 := r2.frozen 7
  have y0 := r3.frozen 0
  have y1 := r3.frozen 1
  dsimp only [cfgF, fltF] at a0 a1 a2 a3 a4 a5 a6 a7 b0 b1
  have c0 : (W3.alloc (.cells #[.int .i64 e0, .int .i64 ln] 29)).cell? ⟨W3.heap.size, 0, none⟩ = some (.int .i64 e0) := by rw [cell_of_row _ _ _ _ _ _ (heap_alloc_new W3 _)]; rfl
  have c1 : (W3.alloc (.cells #[.int .i64 e0, .int .i64 ln] 29)).cell? ⟨W3.heap.size, 1, none⟩ = some (.int .i64 ln) := by rw [cell_of_row _ _ _ _ _ _ (heap_alloc_new W3 _)]; rfl
  have n25 : g2 ≠ W3.heap.size := by have := HR2.out.lt; have := hb.size; omega
  have n35 : g3 ≠ W3.heap.size := by have := HR3.out.lt; have := hb.size; omega
  have n23 : g2 ≠ g3 := by have := HE.out; omega
  clear r2 r3 hb hb4 hB
  go_wp2_with fail
  generalize W3.alloc (.cells #[.int .i64 e0, .int .i64 ln] 29) = W4 at *
  generalize W3.heap.size = g5 at *
  go_region_with (fail)
  all_goals
    have q2 := cfg_all (0) (0) (0) (0) (.slice none 0 0) (.slice none 0 0) (.slice none 0 0) false HR24.out
    have q3' := flt_all (g := g3) (e0) (ln) (grown_row (g := g2) (row_sets8 W4 g2 (0) (0) (0) (0) (.slice none 0 0) (.slice none 0 0) (.slice none 0 0) false) HR34.out (by have := HE.out; omega))
    have q2' := row_other (row_other q2 (by have := HE.out; omega : g2 ≠ g3) 0 (.int .i64 (e0))) (by have := HE.out; omega : g2 ≠ g3) 1 (.int .i64 (ln))
    have qb := (Below.setCell (Below.setCell (Below.setCell (Below.setCell (Below.setCell (Below.setCell (Below.setCell (Below.setCell (Below.setCell (Below.setCell HB4.out (p := ⟨g2, 0, none⟩) (Nat.le_of_eq HE.out.1.symm) (.int .i64 0)) (p := ⟨g2, 1, none⟩) (Nat.le_of_eq HE.out.1.symm) (.int .i64 0)) (p := ⟨g2, 2, none⟩) (Nat.le_of_eq HE.out.1.symm) (.int .i64 0)) (p := ⟨g2, 3, none⟩) (Nat.le_of_eq HE.out.1.symm) (.int .i64 0)) (p := ⟨g2, 4, none⟩) (Nat.le_of_eq HE.out.1.symm) (.slice none 0 0)) (p := ⟨g2, 5, none⟩) (Nat.le_of_eq HE.out.1.symm) (.slice none 0 0)) (p := ⟨g2, 6, none⟩) (Nat.le_of_eq HE.out.1.symm) (.slice none 0 0)) (p := ⟨g2, 7, none⟩) (Nat.le_of_eq HE.out.1.symm) (.bool false)) (p := ⟨g3, 0, none⟩) (by have := HE.out; show w.heap.size ≤ g3; omega) (.int .i64 e0)) (p := ⟨g3, 1, none⟩) (by have := HE.out; show w.heap.size ≤ g3; omega) (.int .i64 ln))
    go_wp2
    (try simp only [Exit.inBlock, Exit.then])
    have q2 := rowIs_drewN' q2' 1
    have q3 := rowIs_drewN' q3' 1
    have qb := below_drewN' qb 1
    rw [show ∀ W : World, W.drewN 1 = W.drew from fun _ => rfl] at q2 q3 qb
    generalize (World.drew (World.setCell (World.setCell (World.setCell (World.setCell (World.setCell (World.setCell (World.setCell (World.setCell (World.setCell (World.setCell W4 ⟨g2, 0, none⟩ (.int .i64 0)) ⟨g2, 1, none⟩ (.int .i64 0)) ⟨g2, 2, none⟩ (.int .i64 0)) ⟨g2, 3, none⟩ (.int .i64 0)) ⟨g2, 4, none⟩ (.slice none 0 0)) ⟨g2, 5, none⟩ (.slice none 0 0)) ⟨g2, 6, none⟩ (.slice none 0 0)) ⟨g2, 7, none⟩ (.bool false)) ⟨g3, 0, none⟩ (.int .i64 e0)) ⟨g3, 1, none⟩ (.int .i64 ln))) = W9 at q2 q3 qb ⊢
    exact bodyPost_ret (cf_results rfl _ _ g2 g3 rfl rfl q2 q3) rfl ⟨rfl, qb⟩
end Go.Proofs.Ythmpagehmfillaa
namespace Go.Proofs.Ythmpagehmfillaa
open Go.RowKit
set_option linter.unusedSimpArgs false
set_option linter.unusedVariables false
def Sts.nth : Sts → Nat → StS
  | .nil, _ => ⟨0, i0, c0, .nil, .nil, 0⟩
  | .cons k i c b e ln _, 0 => ⟨k, i, c, b, e, ln⟩
  | .cons _ _ _ _ _ _ r, n + 1 => r.nth n
/-- All statements, nested ones too. -/
def Sts.all : Sts → Nat
  | .nil => 0
  | .cons _ _ _ b e _ r => b.all + e.all + r.all + 1
/-- The same, but for lines where these do not count. -/
def SamT (lines : Bool) : Sts → Sts → Prop
  | .nil, .nil => True
  | .cons k i c b e ln r, .cons k' i' c' b' e' ln' r' => k = k' ∧ i = i' ∧ c = c' ∧ (lines = true → ln = ln') ∧ SamT lines b b' ∧ SamT lines e e' ∧ SamT lines r r'
  | _, _ => False
theorem SamT.refl (lines : Bool) : ∀ T, SamT lines T T
  | .nil => trivial
  | .cons k i c b e ln r => ⟨rfl, rfl, rfl, fun _ => rfl, SamT.refl lines b, SamT.refl lines e, SamT.refl lines r⟩
theorem SamT.len {lines : Bool} : ∀ {T U : Sts}, SamT lines T U → T.len = U.len
  | .nil, .nil, _ => rfl
  | .nil, .cons .., h => h.elim
  | .cons .., .nil, h => h.elim
  | .cons k i c b e ln r, .cons k' i' c' b' e' ln' r', h => by
    show r.len + 1 = r'.len + 1
    rw [SamT.len h.2.2.2.2.2.2]
theorem SamT.nth {lines : Bool} : ∀ {T U : Sts} {j : Nat}, SamT lines T U → j < T.len → (T.nth j).k = (U.nth j).k ∧ (T.nth j).i = (U.nth j).i ∧ (T.nth j).c = (U.nth j).c ∧ (lines = true → (T.nth j).ln = (U.nth j).ln) ∧ SamT lines (T.nth j).b (U.nth j).b ∧ SamT lines (T.nth j).e (U.nth j).e
  | .nil, .nil, _, _, h => absurd h (Nat.not_lt_zero _)
  | .nil, .cons .., _, h, _ => h.elim
  | .cons .., .nil, _, h, _ => h.elim
  | .cons k i c b e ln r, .cons k' i' c' b' e' ln' r', 0, h, _ => ⟨h.1, h.2.1, h.2.2.1, h.2.2.2.1, h.2.2.2.2.1, h.2.2.2.2.2.1⟩
  | .cons k i c b e ln r, .cons k' i' c' b' e' ln' r', j + 1, h, hj => SamT.nth (T := r) (U := r') (j := j) h.2.2.2.2.2.2 (by have : j + 1 < r.len + 1 := hj; omega)
theorem Sts.nth_all : ∀ {T : Sts} {j : Nat}, j < T.len → (T.nth j).b.all < T.all ∧ (T.nth j).e.all < T.all
  | .nil, _, h => absurd h (Nat.not_lt_zero _)
  | .cons k i c b e ln r, 0, _ => by
    show b.all < b.all + e.all + r.all + 1 ∧ e.all < b.all + e.all + r.all + 1
    omega
  | .cons k i c b e ln r, j + 1, h => by
    have := Sts.nth_all (T := r) (j := j) (by have : j + 1 < r.len + 1 := h; omega)
    show (r.nth j).b.all < b.all + e.all + r.all + 1 ∧ (r.nth j).e.all < b.all + e.all + r.all + 1
    omega
/-- One statement's cells, and its nested lists. -/
theorem El.nth {w : World} {S : Nat → Prop} : ∀ {T : Sts} {V : List Value} {j : Nat}, El w S T V → j < T.len → ∃ vb ve, Tr w S vb (T.nth j).b ∧ Tr w S ve (T.nth j).e ∧ ∀ m, m < 13 → V[j * 13 + m]? = (stC (T.nth j).k (T.nth j).i (T.nth j).c vb ve (T.nth j).ln)[m]?
  | .nil, _, _, _, h => absurd h (Nat.not_lt_zero _)
  | .cons k i c b e ln r, V, 0, h, _ => by
    obtain ⟨vb, ve, V', rfl, h1, h2, h3⟩ := h
    refine ⟨vb, ve, h1, h2, fun m hm => ?_⟩
    rw [Nat.zero_mul, Nat.zero_add, List.getElem?_append_left (by rw [stC_len]; omega)]
    rfl
  | .cons k i c b e ln r, V, j + 1, h, hj => by
    obtain ⟨vb, ve, V', rfl, -, -, h3⟩ := h
    obtain ⟨ub, ue, h4, h5, h6⟩ := El.nth (T := r) (j := j) h3 (by have : j + 1 < r.len + 1 := hj; omega)
    refine ⟨ub, ue, h4, h5, fun m hm => ?_⟩
    rw [List.getElem?_append_right (by rw [stC_len]; omega), stC_len, show (j + 1) * 13 + m - 13 = j * 13 + m by omega]
    exact h6 m hm
def smF (k : Nat) (i : InsS) (c : ConS) (vb ve : Value) (ln : Int) : Nat → Value
  | 0 => .int .u8 k
  | 1 => .int .u8 i.o
  | 2 => .int .i64 i.d
  | 3 => .int .i64 i.s
  | 4 => .int .i64 i.n
  | 5 => .bool c.nt
  | 6 => .int .u8 c.i.o
  | 7 => .int .i64 c.i.d
  | 8 => .int .i64 c.i.s
  | 9 => .int .i64 c.i.n
  | 10 => vb
  | 11 => ve
  | _ => .int .i64 ln
theorem Tr.nth {w : World} {S : Nat → Prop} {A : Option Addr} {n c : Nat} {T : Sts} {j : Nat} (h : Tr w S (.slice A n c) T) (hj : j < T.len) : ∃ g o vb ve, A = some ⟨g, o, none⟩ ∧ S g ∧ g < w.heap.size ∧ Tr w S vb (T.nth j).b ∧ Tr w S ve (T.nth j).e ∧ ∀ m, m < 13 → w.cell? ⟨g, o + j * 13 + m, none⟩ = some (smF (T.nth j).k (T.nth j).i (T.nth j).c vb ve (T.nth j).ln m) := by
  obtain ⟨V, ⟨hV, A', c', e, -, -, hc⟩, hE⟩ := h
  injection e with e1 e2 e3
  subst e1
  obtain ⟨g, o, rfl, hs, hg, hcell⟩ := hc (by omega)
  obtain ⟨vb, ve, h1, h2, h3⟩ := hE.nth hj
  refine ⟨g, o, vb, ve, rfl, hs, hg, h1, h2, fun m hm => ?_⟩
  have hlt : j * 13 + m < V.length := by omega
  have h4 := h3 m hm
  rw [List.getElem?_eq_getElem hlt] at h4
  have h5 := hcell _ hlt
  rw [show o + j * 13 + m = o + (j * 13 + m) by omega, h5, h4]
  match m, hm with
  | 0, _ => rfl
  | 1, _ => rfl
  | 2, _ => rfl
  | 3, _ => rfl
  | 4, _ => rfl
  | 5, _ => rfl
  | 6, _ => rfl
  | 7, _ => rfl
  | 8, _ => rfl
  | 9, _ => rfl
  | 10, _ => rfl
  | 11, _ => rfl
  | 12, _ => rfl
theorem Tr.frm {w : World} {S : Nat → Prop} {v : Value} {T : Sts} (h : Tr w S v T) : ∃ A c, v = .slice A T.len c ∧ T.len ≤ c ∧ c ≤ maxLen := by
  obtain ⟨V, ⟨-, A, c, h1, h2, h3, -⟩, -⟩ := h
  exact ⟨A, c, h1, h2, h3⟩
def smA (k : Nat) (i : InsS) (c : ConS) (vb ve : Value) (ln : Int) : Array Value := #[.int .u8 k, .int .u8 i.o, .int .i64 i.d, .int .i64 i.s, .int .i64 i.n, .bool c.nt, .int .u8 c.i.o, .int .i64 c.i.d, .int .i64 c.i.s, .int .i64 c.i.n, vb, ve, .int .i64 ln]
theorem two_blocks (w : World) (a b : Array Value) (t : TypeId) : ((w.alloc (.cells a t)).alloc (.cells b t)).drew.heap[w.heap.size]? = some (.cells a t (0, 0)) ∧ ((w.alloc (.cells a t)).alloc (.cells b t)).drew.heap[w.heap.size + 1]? = some (.cells b t (0, 0)) ∧ Below w.heap.size w ((w.alloc (.cells a t)).alloc (.cells b t)).drew := by
  have e := World.size_alloc w (.cells a t)
  have h1 := heap_alloc_new w (.cells a t)
  have h2 := heap_alloc_new (w.alloc (.cells a t)) (.cells b t)
  have hb : Below w.heap.size w (w.alloc (.cells a t)) := (Below.refl _ _).alloc (Nat.le_refl _) _
  have hb2 : Below (w.alloc (.cells a t)).heap.size (w.alloc (.cells a t)) ((w.alloc (.cells a t)).alloc (.cells b t)) := (Below.refl _ _).alloc (Nat.le_refl _) _
  refine ⟨(hb2.block _ (by omega)).trans h1, ?_, below_drewN' (hb.trans (hb2.mono (by omega))) 1⟩
  rw [← e]
  exact h2
end Go.Proofs.Ythmpagehmfillaa
namespace Go.Proofs.Ythmpagehmfillaa
open Go.RowKit
set_option linter.unusedSimpArgs false
set_option linter.unusedVariables false
theorem PrT.nth {w : World} {S : Nat → Prop} {A : Option Addr} {n c : Nat} {l : List PartS} {j : Nat} (h : PrT w S (.slice A n c) l) (hj : j < l.length) : ∃ g o, A = some ⟨g, o, none⟩ ∧ g < w.heap.size ∧ ∀ m, m < 7 → w.cell? ⟨g, o + j * 7 + m, none⟩ = some (ptF l[j] m) := by
  obtain ⟨A', c', e, -, -, hc⟩ := h
  injection e with e1 e2 e3
  subst e1
  obtain ⟨g, o, rfl, hs, hg, hcell⟩ := hc (by rintro rfl; simp at hj)
  refine ⟨g, o, rfl, hg, fun m hm => ?_⟩
  rw [show o + j * 7 + m = o + (j * 7 + m) by omega]
  exact hcell j hj m hm
set_option maxRecDepth 100000 in
set_option maxHeartbeats 2000000 in
theorem samP_any (l : List PartS) (v1 v2 : Value) (S1 S2 : Nat → Prop) (w : World) (h1 : PrT w S1 v1 l) (h2 : PrT w S2 v2 l) :
    Calls Try.prog 19 #[v1, v2] w fun e w' => e = .returned (.bool true) ∧ Below w.heap.size w w' := by
  have hm : l.length ≤ maxLen := by obtain ⟨_, c, _, h3, h4, _⟩ := h1; omega
  have hsz : (l.length : Int) < 9223372036854775808 := by unfold maxLen at hm; omega
  obtain ⟨A1, c1, rfl⟩ := h1.form
  obtain ⟨A2, c2, rfl⟩ := h2.form
  have H1 := Lib.hid h1
  have H2 := Lib.hid h2
  clear h1 h2 hm
  go_enter Try.func19, Try.ntmps19
  go_wp2
  go_loopw [5] (fun i wr => ∃ k n : Nat, k ≤ l.length ∧ i = .int .i64 k ∧ wr = w.drewN n) (fun i _ => l.length - (intOf i).toNat)
  case atStart => exact ⟨0, 0, by omega, rfl, rfl⟩
  case round =>
    obtain ⟨k, n, hk, rfl, rfl⟩ := hrel
    by_cases e0 : k < l.length
    · obtain ⟨g1, o1, rfl, hg1, hc1⟩ := H1.out.nth e0
      obtain ⟨g2, o2, rfl, hg2, hc2⟩ := H2.out.nth e0
      have x0 := hc1 0 (by omega)
      have x1 := hc1 1 (by omega)
      have x2 := hc1 2 (by omega)
      have x3 := hc1 3 (by omega)
      have x4 := hc1 4 (by omega)
      have x5 := hc1 5 (by omega)
      have x6 := hc1 6 (by omega)
      have y0 := hc2 0 (by omega)
      have y1 := hc2 1 (by omega)
      have y2 := hc2 2 (by omega)
      have y3 := hc2 3 (by omega)
      have y4 := hc2 4 (by omega)
      have y5 := hc2 5 (by omega)
      have y6 := hc2 6 (by omega)
      simp only [ptF] at x0 x1 x2 x3 x4 x5 x6 y0 y1 y2 y3 y4 y5 y6
      rw [Nat.add_zero] at x0 y0
      have b1 : (k : Int) < (l.length : Int) := by omega
      generalize l[k] = t at *
      clear hc1 hc2
      go_wp2_with fail
      go_quiet (fail)
      go_wp2
      go_roundw
      case rel => exact ⟨k + 1, n + nq, by omega, by go_num, rfl⟩
      case measure => simp [intOf]; omega
    · obtain rfl : k = l.length := by omega
      clear H1 H2
      go_wp2
      go_ret
      exact ⟨rfl, below_drewN' (Below.refl _ _) n⟩
theorem two_blk (w : World) (a b : Array Value) (t : TypeId) : ((w.alloc (.cells a t)).alloc (.cells b t)).heap[w.heap.size]? = some (.cells a t (0, 0)) ∧ ((w.alloc (.cells a t)).alloc (.cells b t)).heap[w.heap.size + 1]? = some (.cells b t (0, 0)) ∧ Below w.heap.size w ((w.alloc (.cells a t)).alloc (.cells b t)) := by
  have e := World.size_alloc w (.cells a t)
  have h1 := heap_alloc_new w (.cells a t)
  have h2 := heap_alloc_new (w.alloc (.cells a t)) (.cells b t)
  have hb : Below w.heap.size w (w.alloc (.cells a t)) := (Below.refl _ _).alloc (Nat.le_refl _) _
  have hb2 : Below (w.alloc (.cells a t)).heap.size (w.alloc (.cells a t)) ((w.alloc (.cells a t)).alloc (.cells b t)) := (Below.refl _ _).alloc (Nat.le_refl _) _
  refine ⟨(hb2.block _ (by omega)).trans h1, ?_, hb.trans (hb2.mono (by omega))⟩
  rw [← e]
  exact h2
end Go.Proofs.Ythmpagehmfillaa
namespace Go.Proofs.Ythmpagehmfillaa
set_option linter.unusedSimpArgs false
set_option linter.unusedVariables false
def plainS (i : InsS) (post : Bool) : Bool := rightI i.o i.d i.s i.n && !decide (i.o = 0) && !decide (27 ≤ i.o) && !(decide (19 ≤ i.o) && decide (i.o ≤ 21)) && (post || !decide (i.o = 26))
def condS (c : ConS) : Bool := rightI c.i.o c.i.d c.i.s c.i.n && decide (19 ≤ c.i.o) && decide (c.i.o ≤ 21)
def bareS (x : StS) : Bool := decide (x.c = c0) && decide (x.b.len + x.e.len = 0)
def rightS (post : Bool) (x : StS) : Bool :=
  if x.k = 1 then bareS x && plainS x.i post
  else if x.k = 4 then bareS x && decide (x.i = i0)
  else if x.k = 2 ∨ x.k = 3 then decide (x.i = i0) && condS x.c && (decide (x.k = 2) || decide (x.e.len = 0))
  else false
/-- How many statements there are, down to some levels. -/
def cnt : Nat → Sts → Nat
  | 0, _ => 0
  | _ + 1, .nil => 0
  | lv + 1, .cons _ _ _ b e _ r => 1 + cnt lv b + cnt lv e + cnt (lv + 1) r
def alR (post : Bool) : Nat → Sts → Bool
  | 0, _ => true
  | _ + 1, .nil => true
  | lv + 1, .cons k i c b e ln r => rightS post ⟨k, i, c, b, e, ln⟩ && alR post lv b && alR post lv e && alR post (lv + 1) r
/-- Are they nested so many levels at most? -/
def dpt : Nat → Sts → Bool
  | _, .nil => true
  | 0, .cons .. => false
  | lv + 1, .cons _ _ _ b e _ r => dpt lv b && dpt lv e && dpt (lv + 1) r
def rightT (post : Bool) (T : Sts) : Bool := dpt 20 T && alR post 20 T && decide (cnt 20 T ≤ 500)
def configT (c : CfgS) : Bool := rightT false c.code && rightT true c.post && (c.has || (decide (c.post.len = 0) && decide (c.ph = 0) && decide (c.pm = 0)))
def Sts.drp : Nat → Sts → Sts
  | 0, T => T
  | _ + 1, .nil => .nil
  | n + 1, .cons _ _ _ _ _ _ r => Sts.drp n r
theorem Sts.drp_nth : ∀ {T : Sts} {j : Nat}, j < T.len → Sts.drp j T = .cons (T.nth j).k (T.nth j).i (T.nth j).c (T.nth j).b (T.nth j).e (T.nth j).ln (Sts.drp (j + 1) T)
  | .nil, _, h => absurd h (Nat.not_lt_zero _)
  | .cons k i c b e ln r, 0, _ => rfl
  | .cons k i c b e ln r, j + 1, h => Sts.drp_nth (T := r) (j := j) (by have : j + 1 < r.len + 1 := h; omega)
theorem Sts.drp_len : ∀ (T : Sts), Sts.drp T.len T = .nil
  | .nil => rfl
  | .cons k i c b e ln r => Sts.drp_len r
theorem Sts.len_all : ∀ (T : Sts), T.len ≤ T.all
  | .nil => Nat.zero_le _
  | .cons k i c b e ln r => by
    have := Sts.len_all r
    show r.len + 1 ≤ b.all + e.all + r.all + 1
    omega
theorem cnt_zero (T : Sts) : cnt 0 T = 0 := by cases T <;> rfl
theorem alR_zero (post : Bool) (T : Sts) : alR post 0 T = true := by cases T <;> rfl
theorem dpt_nil (lv : Nat) : dpt lv .nil = true := by cases lv <;> rfl
theorem cnt_nil (lv : Nat) : cnt lv .nil = 0 := by cases lv <;> rfl
theorem alR_nil (post : Bool) (lv : Nat) : alR post lv .nil = true := by cases lv <;> rfl
theorem cnt_all : ∀ (lv : Nat) (T : Sts), cnt lv T ≤ T.all
  | 0, T => by rw [cnt_zero]; exact Nat.zero_le _
  | _ + 1, .nil => Nat.zero_le _
  | lv + 1, .cons k i c b e ln r => by
    have h1 := cnt_all lv b
    have h2 := cnt_all lv e
    have h3 := cnt_all (lv + 1) r
    show 1 + cnt lv b + cnt lv e + cnt (lv + 1) r ≤ b.all + e.all + r.all + 1
    omega
/-- All numbers are what a byte can hold. -/
def Sts.b8 : Sts → Prop
  | .nil => True
  | .cons k i c b e _ r => k < 256 ∧ i.o < 256 ∧ c.i.o < 256 ∧ b.b8 ∧ e.b8 ∧ r.b8
theorem Sts.b8_nth : ∀ {T : Sts} {j : Nat}, T.b8 → j < T.len → (T.nth j).k < 256 ∧ (T.nth j).i.o < 256 ∧ (T.nth j).c.i.o < 256 ∧ (T.nth j).b.b8 ∧ (T.nth j).e.b8
  | .nil, _, _, h => absurd h (Nat.not_lt_zero _)
  | .cons k i c b e ln r, 0, h, _ => ⟨h.1, h.2.1, h.2.2.1, h.2.2.2.1, h.2.2.2.2.1⟩
  | .cons k i c b e ln r, j + 1, h, hj => Sts.b8_nth (T := r) (j := j) h.2.2.2.2.2 (by have : j + 1 < r.len + 1 := hj; omega)
end Go.Proofs.Ythmpagehmfillaa
