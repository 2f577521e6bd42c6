/-
  THE WALKS OF journal's Add, its short ends; the closures that it calls. Conditions: a journal over a file that is a plain disk.
-/
import Derived.Test.YtlhbijpmhokmnaaGreatQ32
namespace Go.Proofs.YtlhbijpmhokmnaaGreat
open Go.RowKit
set_option linter.unusedSimpArgs false
set_option linter.unusedVariables false

section
variable {w : World} {gj gf gd n e0 : Nat} {br : Bool} {nb ob : Option Nat} {K : TurnK} {pre : List Nat} {p : DkS}
set_option maxRecDepth 100000 in
set_option maxHeartbeats 2000000 in
theorem jadd_broken (h : Jo w gj gf n e0 true) (A : Option Addr) (m c : Nat)  : Calls Tryz.prog 15 #[.pointer (some ⟨gj, 0, none⟩), .slice A m c] w fun e w' => e = .returned (.int .i64 20) ∧ Below w.heap.size w w' := by
  have hb : Below w.heap.size w (w.alloc (.cells #[.pointer (some ⟨gj, 0, none⟩)] 30)) := (Below.refl _ _).alloc (Nat.le_refl _) _
  have hj := h.below hb
  have hcell : (w.alloc (.cells #[.pointer (some ⟨gj, 0, none⟩)] 30)).cell? ⟨w.heap.size, 0, none⟩ = some (.pointer (some ⟨gj, 0, none⟩)) := new_cell _ _ _
  skip
  obtain ⟨c0, c1, c2, c3⟩ := hj.c
  have H := Lib.hid hj
  have HB := Lib.hid hb
  clear h hj hb
  go_enter Tryz.func15, Tryz.ntmps15
  go_wp2_with fail
  refine (jmade_any H.out).mono ?_
  rintro e w' ⟨rfl, rfl⟩
  go_wp2_with fail
  go_ret
  exact ⟨rfl, HB.out⟩
set_option maxRecDepth 100000 in
set_option maxHeartbeats 2000000 in
theorem jadd_empty (h : Jo w gj gf n e0 false) (A : Option Addr) (m c : Nat) (hm : m = 0) : Calls Tryz.prog 15 #[.pointer (some ⟨gj, 0, none⟩), .slice A m c] w fun e w' => e = .returned (.int .i64 2) ∧ Below w.heap.size w w' := by
  have hb : Below w.heap.size w (w.alloc (.cells #[.pointer (some ⟨gj, 0, none⟩)] 30)) := (Below.refl _ _).alloc (Nat.le_refl _) _
  have hj := h.below hb
  have hcell : (w.alloc (.cells #[.pointer (some ⟨gj, 0, none⟩)] 30)).cell? ⟨w.heap.size, 0, none⟩ = some (.pointer (some ⟨gj, 0, none⟩)) := new_cell _ _ _
  subst hm
  obtain ⟨c0, c1, c2, c3⟩ := hj.c
  have H := Lib.hid hj
  have HB := Lib.hid hb
  clear h hj hb
  go_enter Tryz.func15, Tryz.ntmps15
  go_wp2_with fail
  refine (jmade_any H.out).mono ?_
  rintro e w' ⟨rfl, rfl⟩
  go_wp2_with fail
  go_ret
  exact ⟨rfl, HB.out⟩
set_option maxRecDepth 100000 in
set_option maxHeartbeats 2000000 in
theorem jadd_much (h : Jo w gj gf n e0 false) (A : Option Addr) (m c : Nat) (hm : 1048576 < m) : Calls Tryz.prog 15 #[.pointer (some ⟨gj, 0, none⟩), .slice A m c] w fun e w' => e = .returned (.int .i64 3) ∧ Below w.heap.size w w' := by
  have hb : Below w.heap.size w (w.alloc (.cells #[.pointer (some ⟨gj, 0, none⟩)] 30)) := (Below.refl _ _).alloc (Nat.le_refl _) _
  have hj := h.below hb
  have hcell : (w.alloc (.cells #[.pointer (some ⟨gj, 0, none⟩)] 30)).cell? ⟨w.heap.size, 0, none⟩ = some (.pointer (some ⟨gj, 0, none⟩)) := new_cell _ _ _
  (have k1 : (1048576 : Int) < m := by omega); (have k2 : ((m : Int) == 0) = false := by rw [beq_eq_false_iff_ne]; omega); clear hm
  obtain ⟨c0, c1, c2, c3⟩ := hj.c
  have H := Lib.hid hj
  have HB := Lib.hid hb
  clear h hj hb
  go_enter Tryz.func15, Tryz.ntmps15
  go_wp2_with fail
  refine (jmade_any H.out).mono ?_
  rintro e w' ⟨rfl, rfl⟩
  go_wp2_with fail
  go_ret
  exact ⟨rfl, HB.out⟩
/-- The closure that will append b: where the journal's pointer lies (pj) and the bytes' slice (pb). -/
theorem add1_any (A : Option Addr) (m c pj : Nat) : Calls Tryz.prog 47 #[.slice A m c, .pointer (some ⟨pj, 0, none⟩)] w fun e w' => ∃ pb, e = .returned (.func (.func 48) #[] #[.pointer (some ⟨pj, 0, none⟩), .pointer (some ⟨pb, 0, none⟩)]) ∧ w.heap.size ≤ pb ∧ w'.rowIs pb 22 1 (fun _ => .slice A m c) ∧ Below w.heap.size w w' := by
  have hb : Below w.heap.size w (w.alloc (.cells #[.slice A m c] 22)) := (Below.refl _ _).alloc (Nat.le_refl _) _
  have hr : (w.alloc (.cells #[.slice A m c] 22)).rowIs w.heap.size 22 1 (fun _ => .slice A m c) := ⟨_, heap_alloc_new w _, rfl, fun i hi => by
    match i, hi with
    | 0, _ => rfl⟩
  go_enter Tryz.func47, Tryz.ntmps47
  go_wp2_with fail
  go_ret
  exact ⟨_, rfl, Nat.le_refl _, hr, hb⟩
set_option maxRecDepth 100000 in
set_option maxHeartbeats 2000000 in
/-- It appends. -/
theorem add11_any (hj : Jo w gj gf n e0 br) (h : Fv w gf gd nb ob K pre p) (pj pb : Nat) (A : Option Addr) (m c : Nat) (b : List Nat) (hpj : w.rowIs pj 30 1 (fun _ => .pointer (some ⟨gj, 0, none⟩))) (hpb : w.rowIs pb 22 1 (fun _ => .slice A m c)) (hm : m = b.length) (hb : b.length ≤ 4194304) (hr : Rd w A b) :
    Calls Tryz.prog 48 #[.pointer (some ⟨pj, 0, none⟩), .pointer (some ⟨pb, 0, none⟩)] w (Ret fun r w' => VAfter w gf gd nb ob K pre (p.append b).2 w' ∧ r = (p.append b).1) := by
  obtain ⟨c0, -, -, -⟩ := hj.c
  have d0 := hpj.cell (show 0 < 1 by omega)
  have d1 := hpb.cell (show 0 < 1 by omega)
  have HD0 : Hid (Below w.heap.size w w.drew) := below_drewN' (Below.refl w.heap.size w) 1
  have H := Lib.hid h
  have HM := Lib.hid hm
  have HB := Lib.hid hb
  have HR := Lib.hid hr
  have HNE := Lib.hid (hj.ne h)
  have HNJ := Lib.hid (show pj ≠ gd by obtain ⟨t, n', f, hrow, rfl⟩ := h.row; exact rows_apart hpj hrow (by decide))
  have HNB := Lib.hid (show pb ≠ gd by obtain ⟨t, n', f, hrow, rfl⟩ := h.row; exact rows_apart hpb hrow (by decide))
  have l0 := block_lt_of_cell c0
  have l1 := hpj.lt
  have l2 := hpb.lt
  clear hj h hpj hpb hm hb hr
  go_enter Tryz.func48, Tryz.ntmps48
  go_wp2_with fail
  go_region_held3 (fun W => W.cell? ⟨gj, 0, none⟩ = some (.pointer (some ⟨gf, 0, none⟩)) ∧ W.cell? ⟨pj, 0, none⟩ = some (.pointer (some ⟨gj, 0, none⟩)) ∧ W.cell? ⟨pb, 0, none⟩ = some (.slice A m c))
    (first | with_reducible exact ⟨c0, d0, d1⟩ | with_reducible exact HS3.out | exact ⟨c0, d0, d1⟩)
    (first
      | (go_at_call 49; (refine (vappend_any (H.out.below HD0.out) A _ c b (by exact HM.out) HB.out (HR.out.below HD0.out)).mono ?_); rintro e w3 ⟨r, rfl, hx, hr⟩
         have HX := Lib.hid hx
         have HR2 := Lib.hid hr
         have HS3 : Hid (w3.cell? ⟨gj, 0, none⟩ = some (.pointer (some ⟨gf, 0, none⟩)) ∧ w3.cell? ⟨pj, 0, none⟩ = some (.pointer (some ⟨gj, 0, none⟩)) ∧ w3.cell? ⟨pb, 0, none⟩ = some (.slice A m c)) := by
           obtain ⟨_, _, _, _, _, hg3⟩ := hx
           exact ⟨(grown_cell (p := ⟨gj, 0, none⟩) hg3 l0 HNE.out).trans c0, (grown_cell (p := ⟨pj, 0, none⟩) hg3 l1 HNJ.out).trans d0, (grown_cell (p := ⟨pb, 0, none⟩) hg3 l2 HNB.out).trans d1⟩
         clear hx hr))
  all_goals
    go_wp2_with fail
    go_ret
    exact ⟨_, rfl, VAfter.fromB HD0.out HX.out, HR2.out⟩
end
end Go.Proofs.YtlhbijpmhokmnaaGreat
