/-
  THE WALK OF disk's Crash. Conditions: the disk lies in memory; the junk reads as a list.
  THE WALK OF disk's Crash, what was appended kept. Conditions: the disk lies in memory; the junk reads as a list.
  THE WALK OF disk's ReadAt. Conditions: the disk lies in memory.
  THE WALKS OF quillpresslaw07's abc, crashed, awake. Conditions: none, the strings small.
-/
import Derived.Test.YtlhbijpmhokmnaaQ14
import Derived.StillTailTactics
import Derived.Test.YtlhbijpmhokmnaaQ08
import Derived.Lib.SlBytesConst
import Derived.Lib.ConvBytes
namespace Go.Proofs.Ytlhbijpmhokmnaa
open Go.RowKit
set_option linter.unusedSimpArgs false
set_option linter.unusedVariables false

theorem clone_ow (A : Option Addr) (n c : Nat) (l : List Nat) (w : World) (hn : n = l.length) (h : Rd w A l) (hl : l.length ≤ 140737488355328) :
    Calls Try.prog 43 #[.slice A n c] w fun e w' => ∃ v, e = .returned v ∧ Ow w' w.heap.size v l ∧ Below w.heap.size w w' := by
  rcases A with _ | ad
  · have hln : l = [] := by
      cases l with
      | nil => rfl
      | cons a t => obtain ⟨g, o, e, _⟩ := h.2 (by simp); cases e
    subst hln
    subst hn
    have hq := fun W : World => Lib.run_eql_slice_nil (P := Try.prog) (w := W)
    go_enter Try.func43, Try.ntmps43
    go_wp2
    go_ret
    exact ⟨_, rfl, Ow.nil _ _, Below.refl _ _⟩
  · have HA := Lib.hid h
    have HN := Lib.hid hn
    clear h hn
    have hq := fun W : World => Lib.run_eql_slice_nil (P := Try.prog) (w := W)
    go_enter Try.func43, Try.ntmps43
    go_wp2_with (at_builtin; refine append_bytes (.tmp 5) (.tmp 6) rfl rfl rfl (Ow.zero w) (some ad) n c l rfl HN.out (HA.out.alloc _) (by simpa using hl) (by simp) ?_; intro v1 w1 ho1 hg1 ha1)
    go_ret
    exact ⟨v1, rfl, by simpa using ho1, ((Below.refl _ _).alloc (Nat.le_refl _) _).grown hg1 (by simp) (fun k hk => by have hk : some w.heap.size = some k := hk; injection hk with hk; omega)⟩

/-- What a crash leaves. -/
def jk (from' : Nat) (junk base : List Nat) (i : Nat) : List Nat := (List.range base.length).map fun j => if from' ≤ j ∧ j < i then nth junk ((j - from') % junk.length) else nth base j
def crFrom (floor n : Nat) : Nat := max floor ((n - 1) / 512 * 512)
def crLeft (d : DkS) (keep : Int) (junk : List Nat) : List Nat :=
  if keep < 0 then d.old
  else (if junk = [] then d.now.take (d.floor + (min keep (d.now.length - d.floor : Nat)).toNat)
    else jk (crFrom d.floor (d.now.take (d.floor + (min keep (d.now.length - d.floor : Nat)).toNat)).length) junk (d.now.take (d.floor + (min keep (d.now.length - d.floor : Nat)).toNat)) (d.now.take (d.floor + (min keep (d.now.length - d.floor : Nat)).toNat)).length)
def crashD (d : DkS) (left : List Nat) : DkS := { d with now := left, old := left, floor := left.length, down := false, armed := -1, fails := 0 }
theorem jk_length (f : Nat) (junk base : List Nat) (i : Nat) : (jk f junk base i).length = base.length := by simp [jk]
theorem jk_zero (f : Nat) (junk base : List Nat) {i : Nat} (h : i ≤ f) : jk f junk base i = base := by
  apply List.ext_getElem (by simp [jk])
  intro k h1 h2
  simp only [jk, List.getElem_map, List.getElem_range]
  rw [if_neg (by omega), nth_get h2]
theorem jk_step (f : Nat) (junk base : List Nat) {i : Nat} (h : f ≤ i) (hi : i < base.length) : jk f junk base (i + 1) = (jk f junk base i).set i (nth junk ((i - f) % junk.length)) := by
  apply List.ext_getElem (by simp [jk])
  intro k h1 h2
  rw [List.getElem_set]
  simp only [jk, List.getElem_map, List.getElem_range]
  by_cases e : i = k
  · subst e
    rw [if_pos (by omega), if_pos rfl]
  · rw [if_neg e]
    by_cases e2 : f ≤ k ∧ k < i
    · rw [if_pos e2, if_pos (by omega)]
    · rw [if_neg e2, if_neg (by omega)]

theorem grown_set6 {w W : World} {g : Nat} (hg : w.grownBy W (some g)) (a b c d e f : Value) :
    w.grownBy ((((((W.setCell ⟨g, 2, none⟩ a).setCell ⟨g, 3, none⟩ b).setCell ⟨g, 4, none⟩ c).setCell ⟨g, 5, none⟩ d).setCell ⟨g, 6, none⟩ e).setCell ⟨g, 7, none⟩ f) (some g) :=
  grown_set2 (grown_set2 (grown_set2 hg 2 3 a b) 4 5 c d) 6 7 e f
end Go.Proofs.Ytlhbijpmhokmnaa
namespace Go.Proofs.Ytlhbijpmhokmnaa
open Go.RowKit
set_option linter.unusedSimpArgs false
set_option linter.unusedVariables false


end Go.Proofs.Ytlhbijpmhokmnaa
namespace Go.Proofs.Ytlhbijpmhokmnaa
open Go.RowKit
set_option linter.unusedSimpArgs false
set_option linter.unusedVariables false

theorem Rd.cut {w : World} {B : Option Addr} {l : List Nat} (h : Rd w B l) (a n c : Nat) (hc : a + n ≤ l.length) (hlc : l.length ≤ c) : Rd w (if c = a then B else B.map (·.add a)) ((l.drop a).take n) := by
  refine ⟨fun x hx => h.1 x (List.mem_of_mem_drop (List.mem_of_mem_take hx)), fun hne => ?_⟩
  have hn : 0 < n := by
    rcases Nat.eq_zero_or_pos n with e | e
    · rw [e] at hne; simp at hne
    · exact e
  obtain ⟨b, o, rfl, hb, hq⟩ := h.2 (by intro e; rw [e] at hc; simp at hc; omega)
  refine ⟨b, o + a, by rw [if_neg (by omega)]; simp [Addr.add], hb, fun i hi => ?_⟩
  simp only [List.length_take, List.length_drop] at hi
  rw [Nat.add_assoc, hq (a + i) (by omega)]
  simp [nth, List.getElem?_take, List.getElem?_drop, show i < n by omega]
set_option maxRecDepth 100000 in
set_option maxHeartbeats 2000000 in
theorem read1 {g : Nat} {nb ob : Option Nat} {d : DkS} {w : World} (h : Dk w g nb ob d) (p q r o a n : Nat) (hn : a + n ≤ d.now.length) (h1 : w.cell? ⟨p, 0, none⟩ = some (.pointer (some ⟨g, 0, none⟩))) (h2 : w.cell? ⟨q, 0, none⟩ = some (.int .i64 a)) (h3 : w.cell? ⟨r, 0, none⟩ = some (.int .i64 n)) (h4 : w.cell? ⟨o, 0, none⟩ = some (.slice none 0 0)) (h5 : w.frozen? ⟨o, 0, none⟩ = false) :
    Calls Try.prog 65 #[.pointer (some ⟨p, 0, none⟩), .pointer (some ⟨q, 0, none⟩), .pointer (some ⟨r, 0, none⟩), .pointer (some ⟨o, 0, none⟩)] w (Ret fun z w' => z = 0 ∧ ∃ v X, w' = X.setCell ⟨o, 0, none⟩ v ∧ Ow X w.heap.size v ((d.now.drop a).take n) ∧ Below w.heap.size w X) := by
  obtain ⟨B, cb, hcn, hb1, hb2, hrn, hbn⟩ := h.nowC
  have hl : d.now.length ≤ 5000000 := by have := h.wf.now; have := h.wf.most; omega
  have k1 : ((a : Int) + n) ≤ cb := by omega
  have k2 : IntKind.i64.wrap ((a : Int) + n) = a + n := by simp [IntKind.wrap, IntKind.signed, IntKind.bits]; omega
  have k3 : (a : Int) ≤ (a : Int) + n := by omega
  have k4 : ((a : Int) + n).toNat = a + n := by omega
  have k5 : (0 : Int) ≤ (a : Int) + n := by omega
  have hol := block_lt_of_cell h4
  have HT := Lib.hid (hrn.cut a n cb hn hb1)
  have H5 := Lib.hid h5
  have H4 := Lib.hid h4
  clear h hrn hbn h5 h4
  go_enter Try.func65, Try.ntmps65
  go_wp2_with fail
  refine wp_region_still_tail 9 (by kernel_rfl) (by kernel_rfl) ?_
  simp only [List.take_succ_cons, List.take_zero, List.drop_succ_cons, List.drop_zero]
  repeat still_step
  try refine wpStill_nil ?_
  change wpList _ _ _ _ _ w.drew
  go_wp2_with fail
  all_goals
    refine (clone_ow _ n _ ((d.now.drop a).take n) _ (by simp; omega) (by have := HT.out.drew; simp only [*, if_true, if_false, ↓reduceIte] at this; exact this) (by simp; omega)).mono ?_
    rintro e w3 ⟨v, rfl, ho, hb⟩
    obtain ⟨Av, cv, hv, -, -, -⟩ := ho.form
    have hlen : ((d.now.drop a).take n).length = n := by simp; omega
    rw [hlen] at hv
    subst hv
    have HB : Hid (Below w.heap.size w w3) := (below_drewN' (Below.refl _ _) 1).trans hb
    have HO := Lib.hid ho
    have g5 : w3.frozen? ⟨o, 0, none⟩ = false := (HB.out.frozen (p := ⟨o, 0, none⟩) hol).trans H5.out
    have g4 := (HB.out.cell (p := ⟨o, 0, none⟩) hol).trans H4.out
    clear hb ho
    go_wp2_with fail
    go_ret
    exact ⟨0, rfl, rfl, _, w3, rfl, HO.out, HB.out⟩

theorem Rd.setBox {w : World} {A : Option Addr} {l : List Nat} (h : Rd w A l) {p : Addr} {x : Option Addr} {n c : Nat} (hp : w.cell? p = some (.slice x n c)) (u : Value) : Rd (w.setCell p u) A l := by
  refine ⟨h.1, fun hl => ?_⟩
  obtain ⟨b, o, rfl, hb, hc⟩ := h.2 hl
  refine ⟨b, o, rfl, by simpa [World.setCell] using hb, fun i hi => ?_⟩
  rw [World.cell?_setCell_other (h := ?_)]
  · exact hc i hi
  · rintro rfl
    rw [hc i hi] at hp
    cases hp
theorem Dk.setBox {w : World} {g o : Nat} {nb ob : Option Nat} {d : DkS} (h : Dk w g nb ob d) (ho : o ≠ g) {x : Option Addr} {n c : Nat} (hp : w.cell? ⟨o, 0, none⟩ = some (.slice x n c)) (u : Value) : Dk (w.setCell ⟨o, 0, none⟩ u) g nb ob d := by
  obtain ⟨nv, ov, h1, ⟨A1, c1, e1, p1, p2, p3, p4⟩, ⟨A2, c2, e2, q1, q2, q3, q4⟩⟩ := h.lies
  exact ⟨h.wf, h.nn, h.on, fun k e => by simpa [World.setCell] using h.nl k e, fun k e => by simpa [World.setCell] using h.ol k e, nv, ov, h1.of_block (Below.heap_setCell w ⟨o, 0, none⟩ u g (fun e => ho e.symm)), ⟨A1, c1, e1, p1, p2, p3.setBox hp u, p4⟩, ⟨A2, c2, e2, q1, q2, q3.setBox hp u, q4⟩⟩
theorem three_boxes (w : World) (v1 v2 v3 : Value) (t1 t2 t3 : TypeId) : ∃ W, W = ((w.alloc (.cells #[v1] t1)).alloc (.cells #[v2] t2)).alloc (.cells #[v3] t3) ∧ Below w.heap.size w W ∧ W.cell? ⟨w.heap.size, 0, none⟩ = some v1 ∧ W.cell? ⟨w.heap.size + 1, 0, none⟩ = some v2 ∧ W.cell? ⟨w.heap.size + 1 + 1, 0, none⟩ = some v3 ∧ W.heap.size = w.heap.size + 3 := by
  refine ⟨_, rfl, (((Below.refl _ _).alloc (Nat.le_refl _) _).alloc (by simp) _).alloc (by simp; omega) _, ?_, ?_, ?_, by simp⟩
  · have e1 : (w.alloc (.cells #[v1] t1)).cell? ⟨w.heap.size, 0, none⟩ = some v1 := by rw [cell_of_row _ _ _ _ _ _ (heap_alloc_new w _)]; rfl
    exact ((((Below.refl _ _).alloc (Nat.le_refl _) _).alloc (by simp) _).cell (p := ⟨w.heap.size, 0, none⟩) (by simp)).trans e1
  · have e1 : ((w.alloc (.cells #[v1] t1)).alloc (.cells #[v2] t2)).cell? ⟨w.heap.size + 1, 0, none⟩ = some v2 := by rw [cell_of_row _ _ _ _ _ _ (heap_alloc2_new _ _ _)]; rfl
    exact (((Below.refl _ _).alloc (Nat.le_refl _) _).cell (p := ⟨w.heap.size + 1, 0, none⟩) (by simp)).trans e1
  · skip
    rw [show w.heap.size + 1 + 1 = (w.alloc (.cells #[v1] t1)).heap.size + 1 by simp, cell_of_row _ _ _ _ _ _ (heap_alloc2_new _ _ _)]
    rfl
/-- What ReadAt asks, what it answers. -/
def readB (d : DkS) (a n : Int) : Bool := decide (a < 0) || decide (n < 0) || decide ((d.now.length : Int) < n) || decide ((d.now.length : Int) - n < a)
def readL (d : DkS) (a n : Nat) : List Nat := if d.pre.1 = none then (d.now.drop a).take n else []
set_option maxRecDepth 100000 in
set_option maxHeartbeats 2000000 in
theorem read_no {g : Nat} {nb ob : Option Nat} {d : DkS} {w : World} (h : Dk w g nb ob d) (a n : Int) (hn : readB d a n = true) :
    Calls Try.prog 53 #[.pointer (some ⟨g, 0, none⟩), .int .i64 a, .int .i64 n] w fun e w' => e = .returned (.tuple #[.slice none 0 0, .int .i64 2]) ∧ Below w.heap.size w w' := by
  have hgl := h.lt
  have hl : d.now.length ≤ 5000000 := by have := h.wf.now; have := h.wf.most; omega
  have H := Lib.hid h
  clear h
  have hcase : (decide (a < 0) = true) ∨ (decide (a < 0) = false ∧ decide (n < 0) = true) ∨ (decide (a < 0) = false ∧ decide (n < 0) = false ∧ decide ((d.now.length : Int) < n) = true) ∨ (decide (a < 0) = false ∧ decide (n < 0) = false ∧ decide ((d.now.length : Int) < n) = false ∧ decide ((d.now.length : Int) - n < a) = true ∧ IntKind.i64.wrap ((d.now.length : Int) - n) = d.now.length - n) := by
    unfold readB at hn
    simp only [Bool.or_eq_true, decide_eq_true_eq] at hn
    simp only [decide_eq_true_eq, decide_eq_false_iff_not]
    by_cases q1 : a < 0
    · exact .inl q1
    · by_cases q2 : n < 0
      · exact .inr (.inl ⟨q1, q2⟩)
      · by_cases q3 : (d.now.length : Int) < n
        · exact .inr (.inr (.inl ⟨q1, q2, q3⟩))
        · refine .inr (.inr (.inr ⟨q1, q2, q3, by omega, ?_⟩))
          simp [IntKind.wrap, IntKind.signed, IntKind.bits]; omega
  clear hn
  rcases hcase with k1 | ⟨k1, k2⟩ | ⟨k1, k2, k3⟩ | ⟨k1, k2, k3, k4, k5⟩
  all_goals
    go_enter Try.func53, Try.ntmps53
    go_wp2_with fail
    obtain ⟨W, hW, hg0, c1, c2, c3, hs⟩ := three_boxes w (.pointer (some ⟨g, 0, none⟩)) (.int .i64 a) (.int .i64 n) 39 3 3
    rw [← hW]
    clear hW
    have HD := Lib.hid (H.out.below hg0)
    have HG := Lib.hid (grown_of_below hg0 (some g))
    have HS := Lib.hid hs
    have C1 := Lib.hid c1
    have C2 := Lib.hid c2
    have C3 := Lib.hid c3
    have HBW := Lib.hid hg0
    clear hg0 hs
    refine (none_any HD.out).mono ?_
    rintro e w' ⟨rfl, rfl⟩
    obtain ⟨B, cb, hcn, hb1, hb2, -, -⟩ := HD.out.nowC
    go_wp2_with fail
    go_quiet (fail)
    go_wp2
    go_ret2
    exact ⟨rfl, below_drewN' HBW.out _⟩
set_option maxRecDepth 100000 in
set_option maxHeartbeats 2000000 in
theorem read_any {g : Nat} {nb ob : Option Nat} {d : DkS} {w : World} (h : Dk w g nb ob d) (a n : Nat) (hn : a + n ≤ d.now.length) :
    Calls Try.prog 53 #[.pointer (some ⟨g, 0, none⟩), .int .i64 a, .int .i64 n] w fun e w' => ∃ v, e = .returned (.tuple #[v, .int .i64 (d.op fun d => (0, d)).1]) ∧ Ow w' w.heap.size v (readL d a n) ∧ Dk w' g nb ob d.pre.2 ∧ w.grownBy w' (some g) := by
  have hgl := h.lt
  have hl : d.now.length ≤ 5000000 := by have := h.wf.now; have := h.wf.most; omega
  have H := Lib.hid h
  have k1 : decide ((a : Int) < 0) = false := decide_eq_false (by omega)
  have k2 : decide ((n : Int) < 0) = false := decide_eq_false (by omega)
  have k3 : decide ((d.now.length : Int) < n) = false := decide_eq_false (by omega)
  have k3' : decide (d.now.length < n) = false := decide_eq_false (by omega)
  have k4 : decide ((d.now.length : Int) - n < a) = false := decide_eq_false (by omega)
  have k5 : IntKind.i64.wrap ((d.now.length : Int) - n) = d.now.length - n := by simp [IntKind.wrap, IntKind.signed, IntKind.bits]; omega
  clear h
  go_enter Try.func53, Try.ntmps53
  go_wp2_with fail
  obtain ⟨W, hW, hg0, c1, c2, c3, hs⟩ := three_boxes w (.pointer (some ⟨g, 0, none⟩)) (.int .i64 a) (.int .i64 n) 39 3 3
  rw [← hW]
  clear hW
  have HD := Lib.hid (H.out.below hg0)
  have HG := Lib.hid (grown_of_below hg0 (some g))
  have HS := Lib.hid hs
  have C1 := Lib.hid c1
  have C2 := Lib.hid c2
  have C3 := Lib.hid c3
  have HBW := Lib.hid hg0
  clear hg0 hs
  refine (none_any HD.out).mono ?_
  rintro e w' ⟨rfl, rfl⟩
  obtain ⟨B, cb, hcn, hb1, hb2, -, -⟩ := HD.out.nowC
  go_wp2_with fail
  go_quiet (fail)
  replace HBW : Hid (Below w.heap.size w (W.drewN nq)) := below_drewN' HBW.out nq
  replace HS : Hid ((W.drewN nq).heap.size = w.heap.size + 3) := HS.out
  replace C1 : Hid ((W.drewN nq).cell? ⟨w.heap.size, 0, none⟩ = some (.pointer (some ⟨g, 0, none⟩))) := C1.out
  replace C2 : Hid ((W.drewN nq).cell? ⟨w.heap.size + 1, 0, none⟩ = some (.int .i64 a)) := C2.out
  replace C3 : Hid ((W.drewN nq).cell? ⟨w.heap.size + 1 + 1, 0, none⟩ = some (.int .i64 n)) := C3.out
  clear c1 c2 c3 hcn HD HG
  generalize W.drewN nq = X at *
  have e0 : w.heap.size + 3 = X.heap.size := HS.out.symm
  have hY : Below X.heap.size X (X.alloc (.cells #[.slice none 0 0] 22)) := (Below.refl _ _).alloc (Nat.le_refl _) _
  have hrw : (X.alloc (.cells #[.slice none 0 0] 22)).rowIs X.heap.size 22 1 (fun _ => .slice none 0 0) := ⟨_, heap_alloc_new X _, rfl, fun i hi => by
    match i, hi with
    | 0, _ => rfl⟩
  have c4 := hrw.cell (show 0 < 1 by omega)
  have c5 := hrw.frozen 0
  have hYs : (X.alloc (.cells #[.slice none 0 0] 22)).heap.size = X.heap.size + 1 := by simp
  have c1 := (hY.cell (p := ⟨w.heap.size, 0, none⟩) (by show w.heap.size < X.heap.size; omega)).trans C1.out
  have c2 := (hY.cell (p := ⟨w.heap.size + 1, 0, none⟩) (by show w.heap.size + 1 < X.heap.size; omega)).trans C2.out
  have c3 := (hY.cell (p := ⟨w.heap.size + 1 + 1, 0, none⟩) (by show w.heap.size + 1 + 1 < X.heap.size; omega)).trans C3.out
  have hB : Below w.heap.size w (X.alloc (.cells #[.slice none 0 0] 22)) := HBW.out.trans (hY.mono HBW.out.size)
  have HBY := Lib.hid hB
  have HD := Lib.hid (H.out.below hB)
  have CC1 := Lib.hid c1
  have C2 := Lib.hid c2
  have C3 := Lib.hid c3
  have C4 := Lib.hid c4
  have C5 := Lib.hid c5
  have HYs := Lib.hid hYs
  clear hY hYs c2 c3 c4 c5 hB hrw
  go_wp2_with fail
  generalize X.alloc (.cells #[.slice none 0 0] 22) = Y at *
  have hah : Ahead 65 #[.pointer (some ⟨w.heap.size, 0, none⟩), .pointer (some ⟨w.heap.size + 1, 0, none⟩), .pointer (some ⟨w.heap.size + 1 + 1, 0, none⟩), .pointer (some ⟨X.heap.size, 0, none⟩)] g nb ob d Y (fun z w' => z = (d.op fun d => (0, d)).1 ∧ (∃ Av cv, w'.cell? ⟨X.heap.size, 0, none⟩ = some (.slice Av (readL d a n).length cv) ∧ Ow w' w.heap.size (.slice Av (readL d a n).length cv) (readL d a n)) ∧ Dk w' g nb ob d.pre.2 ∧ w.grownBy w' (some g)) := by
    refine ⟨fun w2 hp hd hg hsz => ?_, fun w2 er hp hd hg hsz => ?_⟩
    · have key : ∀ i, w.heap.size ≤ i → i < Y.heap.size → Y.heap[i]? = w2.heap[i]? := fun i h1 h2 => (hg.block i h2 (by intro e; injection e with e; omega)).symm
      have hXY : X.heap.size < Y.heap.size := by have := HYs.out; omega
      have hbl : ∀ (i : Nat) (v : Value), w.heap.size ≤ i → i < Y.heap.size → Y.cell? ⟨i, 0, none⟩ = some v → w2.cell? ⟨i, 0, none⟩ = some v := fun i v h1 h2 h3 => (World.cell?_of_block (hg.block i h2 (by intro e; injection e with e; omega))).trans h3
      have y4 := hbl X.heap.size _ (by omega) hXY C4.out
      refine (read1 hd w.heap.size (w.heap.size + 1) (w.heap.size + 1 + 1) X.heap.size a n (by rw [(DkS.pre_keeps d).2.1]; exact hn) (hbl _ _ (by omega) (by omega) CC1.out) (hbl _ _ (by omega) (by omega) C2.out) (hbl _ _ (by omega) (by omega) C3.out) y4 ?_).mono ?_
      · have := C5.out
        unfold World.frozen? at this ⊢
        rw [hg.block X.heap.size hXY (by intro e; injection e with e; omega)]
        exact this
      · rintro e w' ⟨z, rfl, rfl, v, V, rfl, ho, hb⟩
        have hL : readL d a n = ((d.pre.2.now.drop a).take n) := by unfold readL; rw [if_pos hp, (DkS.pre_keeps d).2.1]
        obtain ⟨Av, cv, rfl, -, hlt, -⟩ := ho.form
        have hVs := hb.size
        have hne : (Value.slice Av ((d.pre.2.now.drop a).take n).length cv).ownBlock = none ∨ (Value.slice Av ((d.pre.2.now.drop a).take n).length cv).ownBlock ≠ some X.heap.size := by
          refine .inr fun e => ?_
          have := (ho.lt _ e).1
          omega
        have hz : (d.op fun d => ((0 : Int), d)) = (0, d.pre.2) := by
          unfold DkS.op
          cases hq : d.pre with
          | mk x y => rw [hq] at hp; have : x = none := hp; subst this; rfl
        have hXc : V.cell? ⟨X.heap.size, 0, none⟩ = some (.slice none 0 0) := (hb.cell (p := ⟨X.heap.size, 0, none⟩) (by show X.heap.size < w2.heap.size; omega)).trans y4
        have hgV : w.grownBy V (some g) := nil_grown (nil_grown (grown_of_below HBY.out _) hg) (grown_of_below hb _)
        rw [hL, hz]
        refine ⟨0, rfl, rfl, ⟨Av, cv, ?_, (ho.kept (grown_set (p := ⟨X.heap.size, 0, none⟩) (grown_refl _ _) (.inl rfl) _) hne).mono (by omega)⟩, (hd.below hb).setBox (by omega) hXc _, grown_set (p := ⟨X.heap.size, 0, none⟩) hgV (.inr (by show w.heap.size ≤ X.heap.size; omega)) _⟩
        exact World.cell?_setCell_same _ _ _ hXc
    · have hz : (d.op fun d => ((0 : Int), d)) = (er, d.pre.2) := by
        unfold DkS.op
        cases hq : d.pre with
        | mk x y => rw [hq] at hp; have : x = some er := hp; subst this; rfl
      have hL : readL d a n = [] := by unfold readL; rw [if_neg (by rw [hp]; simp)]
      rw [hL, hz]
      refine ⟨rfl, ⟨none, 0, (World.cell?_of_block (hg.block X.heap.size (by have := HYs.out; omega) (by intro e; injection e with e; omega))).trans C4.out, Ow.nil _ _⟩, hd, nil_grown (grown_of_below HBY.out _) hg⟩
  refine (op_any _ _ HD.out (fun W => ?_) hah).mono ?_
  · kernel_rfl
  rintro e w' ⟨r, rfl, rfl, ⟨Av, cv, hc, ho⟩, hd, hg⟩
  have HO := Lib.hid ho
  have HDD := Lib.hid hd
  have HGG := Lib.hid hg
  clear ho hd hg hah
  go_wp2_with fail
  go_ret2
  exact ⟨_, rfl, HO.out, HDD.out, HGG.out⟩
end Go.Proofs.Ytlhbijpmhokmnaa
namespace Go.Proofs.Ytlhbijpmhokmnaa
open Go.RowKit
set_option linter.unusedSimpArgs false
set_option linter.unusedVariables false

/-- A disk of the call's own. -/
def Fr (base : Nat) (w0 w : World) (g : Nat) (d : DkS) : Prop := ∃ nb ob, Dk w g nb ob d ∧ base ≤ g ∧ (∀ k, nb = some k → base ≤ k) ∧ (∀ k, ob = some k → base ≤ k) ∧ Below base w0 w
section
variable {base g : Nat} {w0 w w' : World} {d d' : DkS}
theorem Fr.below' (h : Fr base w0 w g d) (hb : Below w.heap.size w w') (hs : base ≤ w.heap.size) : Fr base w0 w' g d := by
  obtain ⟨nb, ob, h1, h2, h3, h4, h5⟩ := h
  exact ⟨nb, ob, h1.below hb, h2, h3, h4, h5.trans (hb.mono hs)⟩
theorem Fr.at (h : Fr base w0 w g d) : base ≤ w.heap.size := by
  obtain ⟨nb, ob, h1, h2, h3, h4, h5⟩ := h
  exact Nat.le_trans h2 (Nat.le_of_lt h1.lt)
theorem Fr.below (h : Fr base w0 w g d) (hb : Below w.heap.size w w') : Fr base w0 w' g d := h.below' hb h.at
theorem Fr.of (h : Fr base w0 w g d) {nb ob : Option Nat} (h1 : Dk w' g nb ob d') (hg : w.grownBy w' (some g)) (h3 : ∀ k, nb = some k → base ≤ k) (h4 : ∀ k, ob = some k → base ≤ k) : Fr base w0 w' g d' := by
  obtain ⟨nb0, ob0, k1, k2, k3, k4, k5⟩ := h
  exact ⟨nb, ob, h1, k2, h3, h4, below_of_grown k5 hg (Nat.le_trans k2 (Nat.le_of_lt k1.lt)) k2⟩
theorem fr_new {nb ob nb' : Option Nat} (hs : base ≤ w.heap.size) (h3 : ∀ k, nb = some k → base ≤ k) (h4 : ∀ k, ob = some k → base ≤ k) (h : New w nb nb' ∨ New w ob nb') : ∀ k, nb' = some k → base ≤ k := by
  intro k e
  rcases h with (rfl | h) | (rfl | h)
  · exact h3 k e
  · exact Nat.le_trans hs (h k e)
  · exact h4 k e
  · exact Nat.le_trans hs (h k e)
/-- A call on it. -/
theorem Fr.call (h : Fr base w0 w g d) : ∃ nb ob, Dk w g nb ob d ∧ ∀ d' w', After w g nb ob d' w' → Fr base w0 w' g d' := by
  have hs := h.at
  have h0 := h
  obtain ⟨nb, ob, h1, h2, h3, h4, h5⟩ := h
  refine ⟨nb, ob, h1, fun d' w' ⟨nb', ob', k1, k2, k3, k4⟩ => h0.of k1 k4 (fr_new hs h3 h4 k2) (fr_new hs h3 h4 k3)⟩
end
theorem bytesW_below (w : World) (e : TypeId) (s : ByteArray) : Below w.heap.size w (Lib.bytesWorld w e s) := by
  have hg : w.grownBy (Lib.bytesWorld w e s) none := ⟨rfl, rfl, rfl, by rw [Lib.bytesWorld_size]; omega, fun i hi _ => Lib.bytesWorld_at_old w e s i hi⟩
  exact ⟨hg.os, hg.tape, hg.output, hg.size, fun i hi => hg.block i hi (by simp)⟩
theorem bytesW_rd (w : World) (e : TypeId) (s : ByteArray) : Rd (Lib.bytesWorld w e s) (some ⟨w.heap.size, 0, none⟩) (strB s) := by
  refine ⟨fun x hx => ?_, fun hl => ⟨w.heap.size, 0, rfl, by rw [Lib.bytesWorld_size]; omega, fun i hi => ?_⟩⟩
  · unfold strB at hx
    obtain ⟨y, -, rfl⟩ := List.mem_map.1 hx
    exact y.toNat_lt
  · rw [Nat.zero_add, Lib.bytesWorld_cell w e s i (by rw [← strB_length]; exact hi)]
    have hi' : i < s.data.toList.length := by simpa [strB] using hi
    rw [nth_get hi]
    have hi2 : i < s.data.size := by simpa using hi'
    simp only [strB, List.getD, List.getElem_map, Array.getElem_toList, Array.getElem?_toList]
    rw [Array.getElem?_eq_getElem hi2]
    rfl
theorem constW_rd (w : World) (e : TypeId) (l : List Nat) (h : ∀ x ∈ l, x < 256) (fr : Nat × Nat) : Rd (w.alloc (.cells (l.map fun x => Value.int .u8 (x : Nat)).toArray e fr)) (some ⟨w.heap.size, 0, none⟩) l := by
  refine ⟨h, fun hl => ⟨w.heap.size, 0, rfl, by simp, fun i hi => ?_⟩⟩
  rw [Nat.zero_add, cell_of_row _ _ _ _ _ _ (heap_alloc_new w _), nth_get hi]
  simp [hi]
theorem conv_str {w : World} {A : Option Addr} {l : List Nat} (h : Rd w A l) (c : Nat) : (convert 22 9 (.slice A l.length c)).run Try.prog w = .ok (.string (mkS l)) w := by
  rcases A with _ | ad
  · have hln : l = [] := by
      cases l with
      | nil => rfl
      | cons a t => obtain ⟨g, o, e, _⟩ := h.2 (by simp); cases e
    subst hln
    rw [show ([] : List Nat).length = 0 from rfl, run_convert_bytes_string (P := Try.prog) w 22 9 5 none 0 c Try.underlying22 Try.underlying5 Try.underlying9]
    simp [Conv.bytesToString]
    rfl
  · have := run_convert_bytes_back (P := Try.prog) w 22 9 5 ad c (l.map UInt8.ofNat) Try.underlying22 Try.underlying5 Try.underlying9 (fun j hj => by
      have hj' : j < l.length := by simpa using hj
      obtain ⟨g, o, e, _, hc⟩ := h.2 (by intro e; rw [e] at hj'; simp at hj')
      injection e with e
      subst e
      have hx := hc j hj'
      have e2 : (⟨g, o, none⟩ : Addr).add j = ⟨g, o + j, none⟩ := by unfold Addr.add; split <;> simp [*]
      rw [e2, hx, nth_get hj']
      have := h.1 _ (List.getElem_mem hj')
      simp [UInt8.toNat_ofNat']
      omega)
    rw [List.length_map] at this
    exact this
def abcD (m : List Nat) : DkS := ⟨1000, [97, 98, 99] ++ m, [97, 98, 99], 3, false, -1, 0, 0⟩
end Go.Proofs.Ytlhbijpmhokmnaa
