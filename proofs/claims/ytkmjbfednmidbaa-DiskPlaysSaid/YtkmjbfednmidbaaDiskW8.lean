/-
  THE WALK OF disk's Crash. Conditions: the disk lies in memory; the junk reads as a list.
-/
import Derived.Test.YtkmjbfednmidbaaDiskW7
import Derived.Test.YtkmjbfednmidbaaOwSet
import Derived.StillTailTactics
namespace Go.Proofs.Ytkmjbfednmidbaa
open Go.RowKit
set_option linter.unusedSimpArgs false
set_option linter.unusedVariables false

theorem clone_ow (A : Option Addr) (n c : Nat) (l : List Nat) (w : World) (hn : n = l.length) (h : Rd w A l) (hl : l.length ≤ 140737488355328) :
    Calls Try.prog 54 #[.slice A n c] w fun e w' => ∃ v, e = .returned v ∧ Ow w' w.heap.size v l ∧ Below w.heap.size w w' := by
  rcases A with _ | ad
  · have hln : l = [] := by
      cases l with
      | nil => rfl
      | cons a t => obtain ⟨g, o, e, _⟩ := h.2 (by simp); cases e
    subst hln
    subst hn
    have hq := fun W : World => Lib.run_eql_slice_nil (P := Try.prog) (w := W)
    go_enter Try.func54, Try.ntmps54
    go_wp2
    go_ret
    exact ⟨_, rfl, Ow.nil _ _, Below.refl _ _⟩
  · have HA := Lib.hid h
    have HN := Lib.hid hn
    clear h hn
    have hq := fun W : World => Lib.run_eql_slice_nil (P := Try.prog) (w := W)
    go_enter Try.func54, Try.ntmps54
    go_wp2_with (at_builtin; refine append_bytes (.tmp 5) (.tmp 6) rfl rfl rfl (Ow.zero w) (some ad) n c l rfl HN.out (HA.out.alloc _) (by simpa using hl) (by simp) ?_; intro v1 w1 ho1 hg1 ha1)
    go_ret
    exact ⟨v1, rfl, by simpa using ho1, ((Below.refl _ _).alloc (Nat.le_refl _) _).grown hg1 (by simp) (fun k hk => by have hk : some w.heap.size = some k := hk; injection hk with hk; omega)⟩

/-- What a crash leaves. -/
def jk (from' : Nat) (junk base : List Nat) (i : Nat) : List Nat := (List.range base.length).map fun j => if from' ≤ j ∧ j < i then nth junk ((j - from') % junk.length) else nth base j
def crFrom (floor n : Nat) : Nat := max floor ((n - 1) / 512 * 512)
def crLeft (d : DkS) (keep : Int) (junk : List Nat) : List Nat :=
  if keep < 0 then d.old
  else (if junk = [] then d.now.take (d.floor + (min keep (d.now.length - d.floor : Nat)).toNat)
    else jk (crFrom d.floor (d.now.take (d.floor + (min keep (d.now.length - d.floor : Nat)).toNat)).length) junk (d.now.take (d.floor + (min keep (d.now.length - d.floor : Nat)).toNat)) (d.now.take (d.floor + (min keep (d.now.length - d.floor : Nat)).toNat)).length)
def crashD (d : DkS) (left : List Nat) : DkS := { d with now := left, old := left, floor := left.length, down := false, armed := -1, fails := 0 }
theorem jk_length (f : Nat) (junk base : List Nat) (i : Nat) : (jk f junk base i).length = base.length := by simp [jk]
theorem jk_zero (f : Nat) (junk base : List Nat) {i : Nat} (h : i ≤ f) : jk f junk base i = base := by
  apply List.ext_getElem (by simp [jk])
  intro k h1 h2
  simp only [jk, List.getElem_map, List.getElem_range]
  rw [if_neg (by omega), nth_get h2]
theorem jk_step (f : Nat) (junk base : List Nat) {i : Nat} (h : f ≤ i) (hi : i < base.length) : jk f junk base (i + 1) = (jk f junk base i).set i (nth junk ((i - f) % junk.length)) := by
  apply List.ext_getElem (by simp [jk])
  intro k h1 h2
  rw [List.getElem_set]
  simp only [jk, List.getElem_map, List.getElem_range]
  by_cases e : i = k
  · subst e
    rw [if_pos (by omega), if_pos rfl]
  · rw [if_neg e]
    by_cases e2 : f ≤ k ∧ k < i
    · rw [if_pos e2, if_pos (by omega)]
    · rw [if_neg e2, if_neg (by omega)]

theorem grown_set6 {w W : World} {g : Nat} (hg : w.grownBy W (some g)) (a b c d e f : Value) :
    w.grownBy ((((((W.setCell ⟨g, 2, none⟩ a).setCell ⟨g, 3, none⟩ b).setCell ⟨g, 4, none⟩ c).setCell ⟨g, 5, none⟩ d).setCell ⟨g, 6, none⟩ e).setCell ⟨g, 7, none⟩ f) (some g) :=
  grown_set2 (grown_set2 (grown_set2 hg 2 3 a b) 4 5 c d) 6 7 e f
set_option maxRecDepth 100000 in
set_option maxHeartbeats 2000000 in
theorem crash_old {g : Nat} {nb ob : Option Nat} {d : DkS} {w : World} (h : Dk w g nb ob d) (keep : Int) (hk : keep < 0) (AJ : Option Addr) (jn jc : Nat) :
    Calls Try.prog 23 #[.pointer (some ⟨g, 0, none⟩), .agg #[.int .i64 keep, .slice AJ jn jc]] w fun e w' => e = .returned (.int .i64 0) ∧ After w g nb ob (crashD d d.old) w' := by
  obtain ⟨LA, lc, hco, -, -, hL, -⟩ := h.oldC
  have hl : d.old.length ≤ 5000000 := by have := h.wf.old; have := h.wf.most; omega
  have hwf := h.wf
  have k0 : ¬ 0 ≤ keep := by omega
  have H := Lib.hid h
  have HL0 := Lib.hid hL
  have HW := Lib.hid hwf
  have hgl := h.lt
  clear h hL hwf
  go_enter Try.func23, Try.ntmps23
  go_wp2_with fail
  have hg0 : Below w.heap.size w (w.alloc (.cells #[.int .i64 keep, .slice AJ jn jc] 34)) := (Below.refl _ _).alloc (Nat.le_refl _) _
  have c1 : (w.alloc (.cells #[.int .i64 keep, .slice AJ jn jc] 34)).cell? ⟨w.heap.size, 0, none⟩ = some (.int .i64 keep) := by rw [cell_of_row _ _ _ _ _ _ (heap_alloc_new w _)]; rfl
  generalize w.alloc (.cells #[.int .i64 keep, .slice AJ jn jc] 34) = W at *
  have HD := Lib.hid (H.out.below hg0)
  have HG := Lib.hid (grown_of_below hg0 (some g))
  have HL := Lib.hid (HL0.out.below hg0)
  replace hco := (hg0.cell (p := ⟨g, 3, none⟩) hgl).trans hco
  clear hg0 HL0
  refine (none_any HD.out).mono ?_
  rintro e w' ⟨rfl, rfl⟩
  obtain ⟨lft, hlft⟩ : ∃ l, l = d.old := ⟨_, rfl⟩
  rw [← hlft] at hl hco HL
  have hlm : lft.length ≤ d.most := by rw [hlft]; exact HW.out.old
  have HLF := Lib.hid hlft
  clear hlft
  go_wp2_with fail
  refine (clone_lt LA lft.length lc lft _ rfl HL.out (by omega)).mono ?_
  rintro e w4 ⟨v1, b1, rfl, ⟨B1, k1, rfl, hs1⟩, hn1, hb1⟩
  have HS1 : Hid (Sl w4 (.slice B1 lft.length k1) lft b1) := ⟨B1, k1, rfl, hs1⟩
  have HN1 := Lib.hid hn1
  have hD4 := HD.out.below hb1
  have hszW4 := hb1.size
  have HG4 := Lib.hid (nil_grown HG.out (grown_of_below hb1 (some g)))
  have HL4 := Lib.hid (HL.out.below hb1)
  clear hb1 hn1 hs1
  have HD4 := Lib.hid hD4
  clear hD4
  go_wp2_with fail
  refine (clone_lt LA lft.length lc lft _ rfl HL4.out (by omega)).mono ?_
  rintro e w5 ⟨v2, b2, rfl, ⟨B2, k2, rfl, hs2⟩, hn2, hb2⟩
  have HS1' := Lib.hid (HS1.out.below hb2)
  have HS2 : Hid (Sl w5 (.slice B2 lft.length k2) lft b2) := ⟨B2, k2, rfl, hs2⟩
  have HN2 := Lib.hid hn2
  have hszW45 : w4.heap.size ≤ w5.heap.size := hb2.size
  have HG5 := Lib.hid (nil_grown HG4.out (grown_of_below hb2 (some g)))
  have HD5 := Lib.hid (HD4.out.below hb2)
  have hgl5 := HD4.out.lt
  have hgl4 := HD.out.lt
  have hsz45 := HG4.out.size
  have hszW := HG.out.size
  clear hb2 hn2 hs2
  obtain ⟨nv, ov, hrow, -, -⟩ := HD5.out.lies
  have z2 := hrow.cell (show 2 < 9 by omega)
  have z3 := hrow.cell (show 3 < 9 by omega)
  obtain ⟨-, -, z4, z5, z6, z7, -⟩ := HD5.out.c
  have f2 := HD5.out.fz 2
  have f3 := HD5.out.fz 3
  have f4 := HD5.out.fz 4
  have f5 := HD5.out.fz 5
  have f6 := HD5.out.fz 6
  have f7 := HD5.out.fz 7
  have HR5 := Lib.hid hrow
  clear hrow
  go_wp2_with fail
  go_ret
  refine ⟨rfl, ?_⟩
  rw [← HLF.out]
  have n1 : ∀ k, b1 = some k → W.heap.size ≤ k := fun k e => (HN1.out k e).1
  have n2 : ∀ k, b2 = some k → w4.heap.size ≤ k := fun k e => (HN2.out k e).1
  have hW4 : W.heap.size ≤ w4.heap.size := hszW4
  refine ⟨b1, b2, ⟨?_, fun e => by have := n1 _ e; omega, fun e => by have := n2 _ e; omega, fun k e => Nat.lt_of_lt_of_le (HN1.out k e).2 (Nat.le_trans hszW45 (grown_set6 (grown_refl w5 (some g)) _ _ _ _ _ _).size), fun k e => Nat.lt_of_lt_of_le (HN2.out k e).2 (grown_set6 (grown_refl w5 (some g)) _ _ _ _ _ _).size, _, _, ((((((HR5.out.set 2 _).set 3 _).set 4 _).set 5 _).set 6 _).set 7 _).congr fun i hi => ?_, HS1'.out.grown (grown_set6 (grown_refl _ _) _ _ _ _ _ _) (fun k e e2 => by injection e2 with e2; have := n1 k e; omega), HS2.out.grown (grown_set6 (grown_refl _ _) _ _ _ _ _ _) (fun k e e2 => by injection e2 with e2; have := n2 k e; omega)⟩, .inl (.inr fun k e => by have := n1 k e; omega), .inl (.inr fun k e => by have := n2 k e; omega), grown_set6 HG5.out _ _ _ _ _ _⟩
  · obtain ⟨q1, q2, q3, q4, q5, q6, q7⟩ := HW.out
    exact ⟨q1, hlm, hlm, hlm, by show (-1 : Int) ≤ -1; omega, by show (-1 : Int) ≤ _; omega, by show 0 ≤ _; omega⟩
  · match i, hi with
    | 0, _ => rfl
    | 1, _ => rfl
    | 2, _ => rfl
    | 3, _ => rfl
    | 4, _ => rfl
    | 5, _ => rfl
    | 6, _ => rfl
    | 7, _ => rfl
    | 8, _ => rfl
end Go.Proofs.Ytkmjbfednmidbaa
