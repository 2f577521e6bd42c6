/-
  THE WALK OF code.Right, second part. Conditions: none.
-/
import Derived.Test.YthmpagehmfillaaQ01
import Derived.Lib.Hide
namespace Go.Proofs.Ythmpagehmfillaa
open Go.RowKit
set_option linter.unusedSimpArgs false
set_option linter.unusedVariables false
def insV (o : Nat) (d s n : Int) : Value := .agg #[.int .u8 o, .int .i64 d, .int .i64 s, .int .i64 n]
set_option maxHeartbeats 8000000 in
theorem right_any (o : Nat) (ho : o < 256) (d s n : Int) (w : World) : Calls Try.prog 62 #[insV o d s n] w fun e w' => e = .returned (.int .i64 (if rightI o d s n then 0 else 110)) ∧ Below w.heap.size w w' := by
  have hm := shp_mem o
  unfold rightI insV
  generalize hx : shp o = x at hm ⊢
  obtain ⟨z, hz⟩ : ∃ z : Int, z = if rightX x d s n = true then 0 else 110 := ⟨_, rfl⟩
  rw [← hz]
  have HZ := Lib.hid hz
  clear hz
  have HX := Lib.hid hx
  clear hx
  unfold shapes at hm
  simp only [List.mem_cons, List.not_mem_nil, or_false] at hm
  have hba : Below w.heap.size w (w.alloc (.cells #[.int .u8 o, .int .i64 d, .int .i64 s, .int .i64 n] 56)) := (Below.refl _ _).alloc (Nat.le_refl _) _
  have HS := Lib.hid (shape_any o ho (w.alloc (.cells #[.int .u8 o, .int .i64 d, .int .i64 s, .int .i64 n] 56)))
  have c0 : (w.alloc (.cells #[.int .u8 o, .int .i64 d, .int .i64 s, .int .i64 n] 56)).cell? ⟨w.heap.size, 0, none⟩ = some (.int .u8 o) := by rw [cell_of_row _ _ _ _ _ _ (heap_alloc_new w _)]; rfl
  have c1 : (w.alloc (.cells #[.int .u8 o, .int .i64 d, .int .i64 s, .int .i64 n] 56)).cell? ⟨w.heap.size, 1, none⟩ = some (.int .i64 d) := by rw [cell_of_row _ _ _ _ _ _ (heap_alloc_new w _)]; rfl
  have c2 : (w.alloc (.cells #[.int .u8 o, .int .i64 d, .int .i64 s, .int .i64 n] 56)).cell? ⟨w.heap.size, 2, none⟩ = some (.int .i64 s) := by rw [cell_of_row _ _ _ _ _ _ (heap_alloc_new w _)]; rfl
  have c3 : (w.alloc (.cells #[.int .u8 o, .int .i64 d, .int .i64 s, .int .i64 n] 56)).cell? ⟨w.heap.size, 3, none⟩ = some (.int .i64 n) := by rw [cell_of_row _ _ _ _ _ _ (heap_alloc_new w _)]; rfl
  have HBA := Lib.hid hba
  have HC0 := Lib.hid c0
  have HC1 := Lib.hid c1
  have HC2 := Lib.hid c2
  have HC3 := Lib.hid c3
  clear hba c0 c1 c2 c3 ho
  rcases hm with rfl | rfl | rfl | rfl | rfl | rfl | rfl | rfl | rfl | rfl
  ·
    go_enter Try.func62, Try.ntmps62
    go_wp2_with fail
    refine HS.out.mono ?_
    rintro e W1 ⟨rfl, hb1⟩
    rw [HX.out]
    dsimp only [shpC]
    have c0 := (hb1.cell (World.block_lt_of_cell? _ _ HC0.out)).trans HC0.out
    have c1 := (hb1.cell (World.block_lt_of_cell? _ _ HC1.out)).trans HC1.out
    have c2 := (hb1.cell (World.block_lt_of_cell? _ _ HC2.out)).trans HC2.out
    have c3 := (hb1.cell (World.block_lt_of_cell? _ _ HC3.out)).trans HC3.out
    have HB1 := Lib.hid (HBA.out.trans (hb1.mono HBA.out.size))
    have hlt : w.heap.size < W1.heap.size := World.block_lt_of_cell? _ _ c0
    have c0' : (W1.alloc (.cells #[.bool true, .int .i64 (-1), .bool false, .bool false, .bool false, .bool false, .bool false] 132)).cell? ⟨w.heap.size, 0, none⟩ = some (.int .u8 o) := (World.cell?_of_block (Below.heap_alloc W1 _ _ hlt)).trans c0
    have c1' : (W1.alloc (.cells #[.bool true, .int .i64 (-1), .bool false, .bool false, .bool false, .bool false, .bool false] 132)).cell? ⟨w.heap.size, 1, none⟩ = some (.int .i64 d) := (World.cell?_of_block (Below.heap_alloc W1 _ _ hlt)).trans c1
    have c2' : (W1.alloc (.cells #[.bool true, .int .i64 (-1), .bool false, .bool false, .bool false, .bool false, .bool false] 132)).cell? ⟨w.heap.size, 2, none⟩ = some (.int .i64 s) := (World.cell?_of_block (Below.heap_alloc W1 _ _ hlt)).trans c2
    have c3' : (W1.alloc (.cells #[.bool true, .int .i64 (-1), .bool false, .bool false, .bool false, .bool false, .bool false] 132)).cell? ⟨w.heap.size, 3, none⟩ = some (.int .i64 n) := (World.cell?_of_block (Below.heap_alloc W1 _ _ hlt)).trans c3
    clear hb1 HC0 HC1 HC2 HC3 HS HBA hlt c0 c1 c2 c3
    go_wp2_with fail
    refine (in_any _ _ _ _).mono ?_
    rintro e w' ⟨rfl, rfl⟩
    obtain ⟨r1, hr1⟩ : ∃ r, r = inI d (-1) false := ⟨_, rfl⟩
    rw [← hr1]
    have E1 := Lib.hid hr1
    clear hr1
    cases r1 with
    | false =>
      have e1 := E1.out.symm
      go_wp2_with fail
      go_ret
      refine ⟨?_, HB1.out.alloc HB1.out.size _⟩
      rw [HZ.out, rightX]
      show Ending.returned (.int .i64 110) = _
      simp [e1]
    | true =>
      go_wp2_with fail
      refine (in_any _ _ _ _).mono ?_
      rintro e w' ⟨rfl, rfl⟩
      obtain ⟨r2, hr2⟩ : ∃ r, r = inI s 6 false := ⟨_, rfl⟩
      rw [← hr2]
      have E2 := Lib.hid hr2
      clear hr2
      cases r2 with
      | false =>
        have e2 := E2.out.symm
        go_wp2_with fail
        go_ret
        refine ⟨?_, HB1.out.alloc HB1.out.size _⟩
        rw [HZ.out, rightX]
        show Ending.returned (.int .i64 110) = _
        simp [e2]
      | true =>
        go_wp2_with fail
        refine (in_any _ _ _ _).mono ?_
        rintro e w' ⟨rfl, rfl⟩
        obtain ⟨r3, hr3⟩ : ∃ r, r = inI n 255 false := ⟨_, rfl⟩
        rw [← hr3]
        have E3 := Lib.hid hr3
        clear hr3
        cases r3 with
        | false =>
          have e3 := E3.out.symm
          go_wp2_with fail
          go_ret
          refine ⟨?_, HB1.out.alloc HB1.out.size _⟩
          rw [HZ.out, rightX]
          show Ending.returned (.int .i64 110) = _
          simp [e3]
        | true =>
          have e1 := E1.out.symm
          have e2 := E2.out.symm
          have e3 := E3.out.symm
          go_wp2_with fail
          go_ret
          refine ⟨?_, HB1.out.alloc HB1.out.size _⟩
          rw [HZ.out, rightX]
          show Ending.returned (.int .i64 0) = _
          skip
          simp [e1, e2, e3]
  ·
    go_enter Try.func62, Try.ntmps62
    go_wp2_with fail
    refine HS.out.mono ?_
    rintro e W1 ⟨rfl, hb1⟩
    rw [HX.out]
    dsimp only [shpC]
    have c0 := (hb1.cell (World.block_lt_of_cell? _ _ HC0.out)).trans HC0.out
    have c1 := (hb1.cell (World.block_lt_of_cell? _ _ HC1.out)).trans HC1.out
    have c2 := (hb1.cell (World.block_lt_of_cell? _ _ HC2.out)).trans HC2.out
    have c3 := (hb1.cell (World.block_lt_of_cell? _ _ HC3.out)).trans HC3.out
    have HB1 := Lib.hid (HBA.out.trans (hb1.mono HBA.out.size))
    have hlt : w.heap.size < W1.heap.size := World.block_lt_of_cell? _ _ c0
    have c0' : (W1.alloc (.cells #[.bool true, .int .i64 6, .bool true, .bool false, .bool false, .bool false, .bool false] 132)).cell? ⟨w.heap.size, 0, none⟩ = some (.int .u8 o) := (World.cell?_of_block (Below.heap_alloc W1 _ _ hlt)).trans c0
    have c1' : (W1.alloc (.cells #[.bool true, .int .i64 6, .bool true, .bool false, .bool false, .bool false, .bool false] 132)).cell? ⟨w.heap.size, 1, none⟩ = some (.int .i64 d) := (World.cell?_of_block (Below.heap_alloc W1 _ _ hlt)).trans c1
    have c2' : (W1.alloc (.cells #[.bool true, .int .i64 6, .bool true, .bool false, .bool false, .bool false, .bool false] 132)).cell? ⟨w.heap.size, 2, none⟩ = some (.int .i64 s) := (World.cell?_of_block (Below.heap_alloc W1 _ _ hlt)).trans c2
    have c3' : (W1.alloc (.cells #[.bool true, .int .i64 6, .bool true, .bool false, .bool false, .bool false, .bool false] 132)).cell? ⟨w.heap.size, 3, none⟩ = some (.int .i64 n) := (World.cell?_of_block (Below.heap_alloc W1 _ _ hlt)).trans c3
    clear hb1 HC0 HC1 HC2 HC3 HS HBA hlt c0 c1 c2 c3
    go_wp2_with fail
    refine (in_any _ _ _ _).mono ?_
    rintro e w' ⟨rfl, rfl⟩
    obtain ⟨r1, hr1⟩ : ∃ r, r = inI d 6 true := ⟨_, rfl⟩
    rw [← hr1]
    have E1 := Lib.hid hr1
    clear hr1
    cases r1 with
    | false =>
      have e1 := E1.out.symm
      go_wp2_with fail
      go_ret
      refine ⟨?_, HB1.out.alloc HB1.out.size _⟩
      rw [HZ.out, rightX]
      show Ending.returned (.int .i64 110) = _
      simp [e1]
    | true =>
      go_wp2_with fail
      refine (in_any _ _ _ _).mono ?_
      rintro e w' ⟨rfl, rfl⟩
      obtain ⟨r2, hr2⟩ : ∃ r, r = inI s 6 true := ⟨_, rfl⟩
      rw [← hr2]
      have E2 := Lib.hid hr2
      clear hr2
      cases r2 with
      | false =>
        have e2 := E2.out.symm
        go_wp2_with fail
        go_ret
        refine ⟨?_, HB1.out.alloc HB1.out.size _⟩
        rw [HZ.out, rightX]
        show Ending.returned (.int .i64 110) = _
        simp [e2]
      | true =>
        go_wp2_with fail
        refine (in_any _ _ _ _).mono ?_
        rintro e w' ⟨rfl, rfl⟩
        obtain ⟨r3, hr3⟩ : ∃ r, r = inI n 255 false := ⟨_, rfl⟩
        rw [← hr3]
        have E3 := Lib.hid hr3
        clear hr3
        cases r3 with
        | false =>
          have e3 := E3.out.symm
          go_wp2_with fail
          go_ret
          refine ⟨?_, HB1.out.alloc HB1.out.size _⟩
          rw [HZ.out, rightX]
          show Ending.returned (.int .i64 110) = _
          simp [e3]
        | true =>
          have e1 := E1.out.symm
          have e2 := E2.out.symm
          have e3 := E3.out.symm
          go_wp2_with fail
          go_ret
          refine ⟨?_, HB1.out.alloc HB1.out.size _⟩
          rw [HZ.out, rightX]
          show Ending.returned (.int .i64 0) = _
          skip
          simp [e1, e2, e3]
  ·
    go_enter Try.func62, Try.ntmps62
    go_wp2_with fail
    refine HS.out.mono ?_
    rintro e W1 ⟨rfl, hb1⟩
    rw [HX.out]
    dsimp only [shpC]
    have c0 := (hb1.cell (World.block_lt_of_cell? _ _ HC0.out)).trans HC0.out
    have c1 := (hb1.cell (World.block_lt_of_cell? _ _ HC1.out)).trans HC1.out
    have c2 := (hb1.cell (World.block_lt_of_cell? _ _ HC2.out)).trans HC2.out
    have c3 := (hb1.cell (World.block_lt_of_cell? _ _ HC3.out)).trans HC3.out
    have HB1 := Lib.hid (HBA.out.trans (hb1.mono HBA.out.size))
    have hlt : w.heap.size < W1.heap.size := World.block_lt_of_cell? _ _ c0
    have c0' : (W1.alloc (.cells #[.bool true, .int .i64 6, .bool false, .bool false, .bool true, .bool false, .bool false] 132)).cell? ⟨w.heap.size, 0, none⟩ = some (.int .u8 o) := (World.cell?_of_block (Below.heap_alloc W1 _ _ hlt)).trans c0
    have c1' : (W1.alloc (.cells #[.bool true, .int .i64 6, .bool false, .bool false, .bool true, .bool false, .bool false] 132)).cell? ⟨w.heap.size, 1, none⟩ = some (.int .i64 d) := (World.cell?_of_block (Below.heap_alloc W1 _ _ hlt)).trans c1
    have c2' : (W1.alloc (.cells #[.bool true, .int .i64 6, .bool false, .bool false, .bool true, .bool false, .bool false] 132)).cell? ⟨w.heap.size, 2, none⟩ = some (.int .i64 s) := (World.cell?_of_block (Below.heap_alloc W1 _ _ hlt)).trans c2
    have c3' : (W1.alloc (.cells #[.bool true, .int .i64 6, .bool false, .bool false, .bool true, .bool false, .bool false] 132)).cell? ⟨w.heap.size, 3, none⟩ = some (.int .i64 n) := (World.cell?_of_block (Below.heap_alloc W1 _ _ hlt)).trans c3
    clear hb1 HC0 HC1 HC2 HC3 HS HBA hlt c0 c1 c2 c3
    go_wp2_with fail
    refine (in_any _ _ _ _).mono ?_
    rintro e w' ⟨rfl, rfl⟩
    obtain ⟨r1, hr1⟩ : ∃ r, r = inI d 6 true := ⟨_, rfl⟩
    rw [← hr1]
    have E1 := Lib.hid hr1
    clear hr1
    cases r1 with
    | false =>
      have e1 := E1.out.symm
      go_wp2_with fail
      go_ret
      refine ⟨?_, HB1.out.alloc HB1.out.size _⟩
      rw [HZ.out, rightX]
      show Ending.returned (.int .i64 110) = _
      simp [e1]
    | true =>
      go_wp2_with fail
      refine (in_any _ _ _ _).mono ?_
      rintro e w' ⟨rfl, rfl⟩
      obtain ⟨r2, hr2⟩ : ∃ r, r = inI s 6 false := ⟨_, rfl⟩
      rw [← hr2]
      have E2 := Lib.hid hr2
      clear hr2
      cases r2 with
      | false =>
        have e2 := E2.out.symm
        go_wp2_with fail
        go_ret
        refine ⟨?_, HB1.out.alloc HB1.out.size _⟩
        rw [HZ.out, rightX]
        show Ending.returned (.int .i64 110) = _
        simp [e2]
      | true =>
        go_wp2_with fail
        refine (in_any _ _ _ _).mono ?_
        rintro e w' ⟨rfl, rfl⟩
        obtain ⟨r3, hr3⟩ : ∃ r, r = inI n 255 true := ⟨_, rfl⟩
        rw [← hr3]
        have E3 := Lib.hid hr3
        clear hr3
        cases r3 with
        | false =>
          have e3 := E3.out.symm
          go_wp2_with fail
          go_ret
          refine ⟨?_, HB1.out.alloc HB1.out.size _⟩
          rw [HZ.out, rightX]
          show Ending.returned (.int .i64 110) = _
          simp [e3]
        | true =>
          have e1 := E1.out.symm
          have e2 := E2.out.symm
          have e3 := E3.out.symm
          go_wp2_with fail
          go_ret
          refine ⟨?_, HB1.out.alloc HB1.out.size _⟩
          rw [HZ.out, rightX]
          show Ending.returned (.int .i64 0) = _
          skip
          simp [e1, e2, e3]
  ·
    go_enter Try.func62, Try.ntmps62
    go_wp2_with fail
    refine HS.out.mono ?_
    rintro e W1 ⟨rfl, hb1⟩
    rw [HX.out]
    dsimp only [shpC]
    have c0 := (hb1.cell (World.block_lt_of_cell? _ _ HC0.out)).trans HC0.out
    have c1 := (hb1.cell (World.block_lt_of_cell? _ _ HC1.out)).trans HC1.out
    have c2 := (hb1.cell (World.block_lt_of_cell? _ _ HC2.out)).trans HC2.out
    have c3 := (hb1.cell (World.block_lt_of_cell? _ _ HC3.out)).trans HC3.out
    have HB1 := Lib.hid (HBA.out.trans (hb1.mono HBA.out.size))
    have hlt : w.heap.size < W1.heap.size := World.block_lt_of_cell? _ _ c0
    have c0' : (W1.alloc (.cells #[.bool true, .int .i64 6, .bool false, .bool false, .bool false, .bool false, .bool false] 132)).cell? ⟨w.heap.size, 0, none⟩ = some (.int .u8 o) := (World.cell?_of_block (Below.heap_alloc W1 _ _ hlt)).trans c0
    have c1' : (W1.alloc (.cells #[.bool true, .int .i64 6, .bool false, .bool false, .bool false, .bool false, .bool false] 132)).cell? ⟨w.heap.size, 1, none⟩ = some (.int .i64 d) := (World.cell?_of_block (Below.heap_alloc W1 _ _ hlt)).trans c1
    have c2' : (W1.alloc (.cells #[.bool true, .int .i64 6, .bool false, .bool false, .bool false, .bool false, .bool false] 132)).cell? ⟨w.heap.size, 2, none⟩ = some (.int .i64 s) := (World.cell?_of_block (Below.heap_alloc W1 _ _ hlt)).trans c2
    have c3' : (W1.alloc (.cells #[.bool true, .int .i64 6, .bool false, .bool false, .bool false, .bool false, .bool false] 132)).cell? ⟨w.heap.size, 3, none⟩ = some (.int .i64 n) := (World.cell?_of_block (Below.heap_alloc W1 _ _ hlt)).trans c3
    clear hb1 HC0 HC1 HC2 HC3 HS HBA hlt c0 c1 c2 c3
    go_wp2_with fail
    refine (in_any _ _ _ _).mono ?_
    rintro e w' ⟨rfl, rfl⟩
    obtain ⟨r1, hr1⟩ : ∃ r, r = inI d 6 true := ⟨_, rfl⟩
    rw [← hr1]
    have E1 := Lib.hid hr1
    clear hr1
    cases r1 with
    | false =>
      have e1 := E1.out.symm
      go_wp2_with fail
      go_ret
      refine ⟨?_, HB1.out.alloc HB1.out.size _⟩
      rw [HZ.out, rightX]
      show Ending.returned (.int .i64 110) = _
      simp [e1]
    | true =>
      go_wp2_with fail
      refine (in_any _ _ _ _).mono ?_
      rintro e w' ⟨rfl, rfl⟩
      obtain ⟨r2, hr2⟩ : ∃ r, r = inI s 6 false := ⟨_, rfl⟩
      rw [← hr2]
      have E2 := Lib.hid hr2
      clear hr2
      cases r2 with
      | false =>
        have e2 := E2.out.symm
        go_wp2_with fail
        go_ret
        refine ⟨?_, HB1.out.alloc HB1.out.size _⟩
        rw [HZ.out, rightX]
        show Ending.returned (.int .i64 110) = _
        simp [e2]
      | true =>
        go_wp2_with fail
        refine (in_any _ _ _ _).mono ?_
        rintro e w' ⟨rfl, rfl⟩
        obtain ⟨r3, hr3⟩ : ∃ r, r = inI n 255 false := ⟨_, rfl⟩
        rw [← hr3]
        have E3 := Lib.hid hr3
        clear hr3
        cases r3 with
        | false =>
          have e3 := E3.out.symm
          go_wp2_with fail
          go_ret
          refine ⟨?_, HB1.out.alloc HB1.out.size _⟩
          rw [HZ.out, rightX]
          show Ending.returned (.int .i64 110) = _
          simp [e3]
        | true =>
          have e1 := E1.out.symm
          have e2 := E2.out.symm
          have e3 := E3.out.symm
          go_wp2_with fail
          go_ret
          refine ⟨?_, HB1.out.alloc HB1.out.size _⟩
          rw [HZ.out, rightX]
          show Ending.returned (.int .i64 0) = _
          skip
          simp [e1, e2, e3]
  ·
    by_cases hs : s = 7
    ·
      have hsb : (s == 7) = true := by rw [beq_iff_eq]; exact hs
      have HS7 := Lib.hid hs
      clear hs
      go_enter Try.func62, Try.ntmps62
      go_wp2_with fail
      refine HS.out.mono ?_
      rintro e W1 ⟨rfl, hb1⟩
      rw [HX.out]
      dsimp only [shpC]
      have c0 := (hb1.cell (World.block_lt_of_cell? _ _ HC0.out)).trans HC0.out
      have c1 := (hb1.cell (World.block_lt_of_cell? _ _ HC1.out)).trans HC1.out
      have c2 := (hb1.cell (World.block_lt_of_cell? _ _ HC2.out)).trans HC2.out
      have c3 := (hb1.cell (World.block_lt_of_cell? _ _ HC3.out)).trans HC3.out
      have HB1 := Lib.hid (HBA.out.trans (hb1.mono HBA.out.size))
      have hlt : w.heap.size < W1.heap.size := World.block_lt_of_cell? _ _ c0
      have c0' : (W1.alloc (.cells #[.bool true, .int .i64 (-1), .bool false, .bool true, .bool false, .bool false, .bool false] 132)).cell? ⟨w.heap.size, 0, none⟩ = some (.int .u8 o) := (World.cell?_of_block (Below.heap_alloc W1 _ _ hlt)).trans c0
      have c1' : (W1.alloc (.cells #[.bool true, .int .i64 (-1), .bool false, .bool true, .bool false, .bool false, .bool false] 132)).cell? ⟨w.heap.size, 1, none⟩ = some (.int .i64 d) := (World.cell?_of_block (Below.heap_alloc W1 _ _ hlt)).trans c1
      have c2' : (W1.alloc (.cells #[.bool true, .int .i64 (-1), .bool false, .bool true, .bool false, .bool false, .bool false] 132)).cell? ⟨w.heap.size, 2, none⟩ = some (.int .i64 s) := (World.cell?_of_block (Below.heap_alloc W1 _ _ hlt)).trans c2
      have c3' : (W1.alloc (.cells #[.bool true, .int .i64 (-1), .bool false, .bool true, .bool false, .bool false, .bool false] 132)).cell? ⟨w.heap.size, 3, none⟩ = some (.int .i64 n) := (World.cell?_of_block (Below.heap_alloc W1 _ _ hlt)).trans c3
      clear hb1 HC0 HC1 HC2 HC3 HS HBA hlt c0 c1 c2 c3
      go_wp2_with fail
      refine (in_any _ _ _ _).mono ?_
      rintro e w' ⟨rfl, rfl⟩
      obtain ⟨r1, hr1⟩ : ∃ r, r = inI d (-1) false := ⟨_, rfl⟩
      rw [← hr1]
      have E1 := Lib.hid hr1
      clear hr1
      cases r1 with
      | false =>
        have e1 := E1.out.symm
        go_wp2_with fail
        go_ret
        refine ⟨?_, HB1.out.alloc HB1.out.size _⟩
        rw [HZ.out, rightX]
        show Ending.returned (.int .i64 110) = _
        simp [e1]
      | true =>
        go_wp2_with fail
        refine (in_any _ _ _ _).mono ?_
        rintro e w' ⟨rfl, rfl⟩
        obtain ⟨r2, hr2⟩ : ∃ r, r = inI s 7 true := ⟨_, rfl⟩
        rw [← hr2]
        have E2 := Lib.hid hr2
        clear hr2
        cases r2 with
        | false =>
          have e2 := E2.out.symm
          go_wp2_with fail
          go_ret
          refine ⟨?_, HB1.out.alloc HB1.out.size _⟩
          rw [HZ.out, rightX]
          show Ending.returned (.int .i64 110) = _
          simp [e2]
        | true =>
          go_wp2_with fail
          refine (in_any _ _ _ _).mono ?_
          rintro e w' ⟨rfl, rfl⟩
          obtain ⟨r3, hr3⟩ : ∃ r, r = inI n 255 true := ⟨_, rfl⟩
          rw [← hr3]
          have E3 := Lib.hid hr3
          clear hr3
          cases r3 with
          | false =>
            have e3 := E3.out.symm
            go_wp2_with fail
            go_ret
            refine ⟨?_, HB1.out.alloc HB1.out.size _⟩
            rw [HZ.out, rightX]
            show Ending.returned (.int .i64 110) = _
            simp [e3, HS7.out]
          | true =>
            have e1 := E1.out.symm
            have e2 := E2.out.symm
            have e3 := E3.out.symm
            go_wp2_with fail
            go_ret
            refine ⟨?_, HB1.out.alloc HB1.out.size _⟩
            rw [HZ.out, rightX]
            show Ending.returned (.int .i64 0) = _
            rw [HS7.out] at e2
            simp [e1, e2, e3, HS7.out]
    ·
      have hsb : (s == 7) = false := by rw [beq_eq_false_iff_ne]; exact hs
      have HS7 := Lib.hid hs
      clear hs
      go_enter Try.func62, Try.ntmps62
      go_wp2_with fail
      refine HS.out.mono ?_
      rintro e W1 ⟨rfl, hb1⟩
      rw [HX.out]
      dsimp only [shpC]
      have c0 := (hb1.cell (World.block_lt_of_cell? _ _ HC0.out)).trans HC0.out
      have c1 := (hb1.cell (World.block_lt_of_cell? _ _ HC1.out)).trans HC1.out
      have c2 := (hb1.cell (World.block_lt_of_cell? _ _ HC2.out)).trans HC2.out
      have c3 := (hb1.cell (World.block_lt_of_cell? _ _ HC3.out)).trans HC3.out
      have HB1 := Lib.hid (HBA.out.trans (hb1.mono HBA.out.size))
      have hlt : w.heap.size < W1.heap.size := World.block_lt_of_cell? _ _ c0
      have c0' : (W1.alloc (.cells #[.bool true, .int .i64 (-1), .bool false, .bool true, .bool false, .bool false, .bool false] 132)).cell? ⟨w.heap.size, 0, none⟩ = some (.int .u8 o) := (World.cell?_of_block (Below.heap_alloc W1 _ _ hlt)).trans c0
      have c1' : (W1.alloc (.cells #[.bool true, .int .i64 (-1), .bool false, .bool true, .bool false, .bool false, .bool false] 132)).cell? ⟨w.heap.size, 1, none⟩ = some (.int .i64 d) := (World.cell?_of_block (Below.heap_alloc W1 _ _ hlt)).trans c1
      have c2' : (W1.alloc (.cells #[.bool true, .int .i64 (-1), .bool false, .bool true, .bool false, .bool false, .bool false] 132)).cell? ⟨w.heap.size, 2, none⟩ = some (.int .i64 s) := (World.cell?_of_block (Below.heap_alloc W1 _ _ hlt)).trans c2
      have c3' : (W1.alloc (.cells #[.bool true, .int .i64 (-1), .bool false, .bool true, .bool false, .bool false, .bool false] 132)).cell? ⟨w.heap.size, 3, none⟩ = some (.int .i64 n) := (World.cell?_of_block (Below.heap_alloc W1 _ _ hlt)).trans c3
      clear hb1 HC0 HC1 HC2 HC3 HS HBA hlt c0 c1 c2 c3
      go_wp2_with fail
      refine (in_any _ _ _ _).mono ?_
      rintro e w' ⟨rfl, rfl⟩
      obtain ⟨r1, hr1⟩ : ∃ r, r = inI d (-1) false := ⟨_, rfl⟩
      rw [← hr1]
      have E1 := Lib.hid hr1
      clear hr1
      cases r1 with
      | false =>
        have e1 := E1.out.symm
        go_wp2_with fail
        go_ret
        refine ⟨?_, HB1.out.alloc HB1.out.size _⟩
        rw [HZ.out, rightX]
        show Ending.returned (.int .i64 110) = _
        simp [e1]
      | true =>
        go_wp2_with fail
        refine (in_any _ _ _ _).mono ?_
        rintro e w' ⟨rfl, rfl⟩
        obtain ⟨r2, hr2⟩ : ∃ r, r = inI s 7 true := ⟨_, rfl⟩
        rw [← hr2]
        have E2 := Lib.hid hr2
        clear hr2
        cases r2 with
        | false =>
          have e2 := E2.out.symm
          go_wp2_with fail
          go_ret
          refine ⟨?_, HB1.out.alloc HB1.out.size _⟩
          rw [HZ.out, rightX]
          show Ending.returned (.int .i64 110) = _
          simp [e2]
        | true =>
          go_wp2_with fail
          refine (in_any _ _ _ _).mono ?_
          rintro e w' ⟨rfl, rfl⟩
          obtain ⟨r3, hr3⟩ : ∃ r, r = inI n 255 false := ⟨_, rfl⟩
          rw [← hr3]
          have E3 := Lib.hid hr3
          clear hr3
          cases r3 with
          | false =>
            have e3 := E3.out.symm
            go_wp2_with fail
            go_ret
            refine ⟨?_, HB1.out.alloc HB1.out.size _⟩
            rw [HZ.out, rightX]
            show Ending.returned (.int .i64 110) = _
            simp [e3, HS7.out]
          | true =>
            have e1 := E1.out.symm
            have e2 := E2.out.symm
            have e3 := E3.out.symm
            go_wp2_with fail
            go_ret
            refine ⟨?_, HB1.out.alloc HB1.out.size _⟩
            rw [HZ.out, rightX]
            show Ending.returned (.int .i64 0) = _
            skip
            simp [e1, e2, e3, HS7.out]
  ·
    go_enter Try.func62, Try.ntmps62
    go_wp2_with fail
    refine HS.out.mono ?_
    rintro e W1 ⟨rfl, hb1⟩
    rw [HX.out]
    dsimp only [shpC]
    have c0 := (hb1.cell (World.block_lt_of_cell? _ _ HC0.out)).trans HC0.out
    have c1 := (hb1.cell (World.block_lt_of_cell? _ _ HC1.out)).trans HC1.out
    have c2 := (hb1.cell (World.block_lt_of_cell? _ _ HC2.out)).trans HC2.out
    have c3 := (hb1.cell (World.block_lt_of_cell? _ _ HC3.out)).trans HC3.out
    have HB1 := Lib.hid (HBA.out.trans (hb1.mono HBA.out.size))
    have hlt : w.heap.size < W1.heap.size := World.block_lt_of_cell? _ _ c0
    have c0' : (W1.alloc (.cells #[.bool true, .int .i64 3, .bool false, .bool false, .bool true, .bool false, .bool false] 132)).cell? ⟨w.heap.size, 0, none⟩ = some (.int .u8 o) := (World.cell?_of_block (Below.heap_alloc W1 _ _ hlt)).trans c0
    have c1' : (W1.alloc (.cells #[.bool true, .int .i64 3, .bool false, .bool false, .bool true, .bool false, .bool false] 132)).cell? ⟨w.heap.size, 1, none⟩ = some (.int .i64 d) := (World.cell?_of_block (Below.heap_alloc W1 _ _ hlt)).trans c1
    have c2' : (W1.alloc (.cells #[.bool true, .int .i64 3, .bool false, .bool false, .bool true, .bool false, .bool false] 132)).cell? ⟨w.heap.size, 2, none⟩ = some (.int .i64 s) := (World.cell?_of_block (Below.heap_alloc W1 _ _ hlt)).trans c2
    have c3' : (W1.alloc (.cells #[.bool true, .int .i64 3, .bool false, .bool false, .bool true, .bool false, .bool false] 132)).cell? ⟨w.heap.size, 3, none⟩ = some (.int .i64 n) := (World.cell?_of_block (Below.heap_alloc W1 _ _ hlt)).trans c3
    clear hb1 HC0 HC1 HC2 HC3 HS HBA hlt c0 c1 c2 c3
    go_wp2_with fail
    refine (in_any _ _ _ _).mono ?_
    rintro e w' ⟨rfl, rfl⟩
    obtain ⟨r1, hr1⟩ : ∃ r, r = inI d 3 true := ⟨_, rfl⟩
    rw [← hr1]
    have E1 := Lib.hid hr1
    clear hr1
    cases r1 with
    | false =>
      have e1 := E1.out.symm
      go_wp2_with fail
      go_ret
      refine ⟨?_, HB1.out.alloc HB1.out.size _⟩
      rw [HZ.out, rightX]
      show Ending.returned (.int .i64 110) = _
      simp [e1]
    | true =>
      go_wp2_with fail
      refine (in_any _ _ _ _).mono ?_
      rintro e w' ⟨rfl, rfl⟩
      obtain ⟨r2, hr2⟩ : ∃ r, r = inI s 6 false := ⟨_, rfl⟩
      rw [← hr2]
      have E2 := Lib.hid hr2
      clear hr2
      cases r2 with
      | false =>
        have e2 := E2.out.symm
        go_wp2_with fail
        go_ret
        refine ⟨?_, HB1.out.alloc HB1.out.size _⟩
        rw [HZ.out, rightX]
        show Ending.returned (.int .i64 110) = _
        simp [e2]
      | true =>
        go_wp2_with fail
        refine (in_any _ _ _ _).mono ?_
        rintro e w' ⟨rfl, rfl⟩
        obtain ⟨r3, hr3⟩ : ∃ r, r = inI n 255 true := ⟨_, rfl⟩
        rw [← hr3]
        have E3 := Lib.hid hr3
        clear hr3
        cases r3 with
        | false =>
          have e3 := E3.out.symm
          go_wp2_with fail
          go_ret
          refine ⟨?_, HB1.out.alloc HB1.out.size _⟩
          rw [HZ.out, rightX]
          show Ending.returned (.int .i64 110) = _
          simp [e3]
        | true =>
          have e1 := E1.out.symm
          have e2 := E2.out.symm
          have e3 := E3.out.symm
          go_wp2_with fail
          go_ret
          refine ⟨?_, HB1.out.alloc HB1.out.size _⟩
          rw [HZ.out, rightX]
          show Ending.returned (.int .i64 0) = _
          skip
          simp [e1, e2, e3]
  ·
    go_enter Try.func62, Try.ntmps62
    go_wp2_with fail
    refine HS.out.mono ?_
    rintro e W1 ⟨rfl, hb1⟩
    rw [HX.out]
    dsimp only [shpC]
    have c0 := (hb1.cell (World.block_lt_of_cell? _ _ HC0.out)).trans HC0.out
    have c1 := (hb1.cell (World.block_lt_of_cell? _ _ HC1.out)).trans HC1.out
    have c2 := (hb1.cell (World.block_lt_of_cell? _ _ HC2.out)).trans HC2.out
    have c3 := (hb1.cell (World.block_lt_of_cell? _ _ HC3.out)).trans HC3.out
    have HB1 := Lib.hid (HBA.out.trans (hb1.mono HBA.out.size))
    have hlt : w.heap.size < W1.heap.size := World.block_lt_of_cell? _ _ c0
    have c0' : (W1.alloc (.cells #[.bool true, .int .i64 (-1), .bool false, .bool false, .bool true, .bool false, .bool false] 132)).cell? ⟨w.heap.size, 0, none⟩ = some (.int .u8 o) := (World.cell?_of_block (Below.heap_alloc W1 _ _ hlt)).trans c0
    have c1' : (W1.alloc (.cells #[.bool true, .int .i64 (-1), .bool false, .bool false, .bool true, .bool false, .bool false] 132)).cell? ⟨w.heap.size, 1, none⟩ = some (.int .i64 d) := (World.cell?_of_block (Below.heap_alloc W1 _ _ hlt)).trans c1
    have c2' : (W1.alloc (.cells #[.bool true, .int .i64 (-1), .bool false, .bool false, .bool true, .bool false, .bool false] 132)).cell? ⟨w.heap.size, 2, none⟩ = some (.int .i64 s) := (World.cell?_of_block (Below.heap_alloc W1 _ _ hlt)).trans c2
    have c3' : (W1.alloc (.cells #[.bool true, .int .i64 (-1), .bool false, .bool false, .bool true, .bool false, .bool false] 132)).cell? ⟨w.heap.size, 3, none⟩ = some (.int .i64 n) := (World.cell?_of_block (Below.heap_alloc W1 _ _ hlt)).trans c3
    clear hb1 HC0 HC1 HC2 HC3 HS HBA hlt c0 c1 c2 c3
    go_wp2_with fail
    refine (in_any _ _ _ _).mono ?_
    rintro e w' ⟨rfl, rfl⟩
    obtain ⟨r1, hr1⟩ : ∃ r, r = inI d (-1) false := ⟨_, rfl⟩
    rw [← hr1]
    have E1 := Lib.hid hr1
    clear hr1
    cases r1 with
    | false =>
      have e1 := E1.out.symm
      go_wp2_with fail
      go_ret
      refine ⟨?_, HB1.out.alloc HB1.out.size _⟩
      rw [HZ.out, rightX]
      show Ending.returned (.int .i64 110) = _
      simp [e1]
    | true =>
      go_wp2_with fail
      refine (in_any _ _ _ _).mono ?_
      rintro e w' ⟨rfl, rfl⟩
      obtain ⟨r2, hr2⟩ : ∃ r, r = inI s 6 false := ⟨_, rfl⟩
      rw [← hr2]
      have E2 := Lib.hid hr2
      clear hr2
      cases r2 with
      | false =>
        have e2 := E2.out.symm
        go_wp2_with fail
        go_ret
        refine ⟨?_, HB1.out.alloc HB1.out.size _⟩
        rw [HZ.out, rightX]
        show Ending.returned (.int .i64 110) = _
        simp [e2]
      | true =>
        go_wp2_with fail
        refine (in_any _ _ _ _).mono ?_
        rintro e w' ⟨rfl, rfl⟩
        obtain ⟨r3, hr3⟩ : ∃ r, r = inI n 255 true := ⟨_, rfl⟩
        rw [← hr3]
        have E3 := Lib.hid hr3
        clear hr3
        cases r3 with
        | false =>
          have e3 := E3.out.symm
          go_wp2_with fail
          go_ret
          refine ⟨?_, HB1.out.alloc HB1.out.size _⟩
          rw [HZ.out, rightX]
          show Ending.returned (.int .i64 110) = _
          simp [e3]
        | true =>
          have e1 := E1.out.symm
          have e2 := E2.out.symm
          have e3 := E3.out.symm
          go_wp2_with fail
          go_ret
          refine ⟨?_, HB1.out.alloc HB1.out.size _⟩
          rw [HZ.out, rightX]
          show Ending.returned (.int .i64 0) = _
          skip
          simp [e1, e2, e3]
  ·
    go_enter Try.func62, Try.ntmps62
    go_wp2_with fail
    refine HS.out.mono ?_
    rintro e W1 ⟨rfl, hb1⟩
    rw [HX.out]
    dsimp only [shpC]
    have c0 := (hb1.cell (World.block_lt_of_cell? _ _ HC0.out)).trans HC0.out
    have c1 := (hb1.cell (World.block_lt_of_cell? _ _ HC1.out)).trans HC1.out
    have c2 := (hb1.cell (World.block_lt_of_cell? _ _ HC2.out)).trans HC2.out
    have c3 := (hb1.cell (World.block_lt_of_cell? _ _ HC3.out)).trans HC3.out
    have HB1 := Lib.hid (HBA.out.trans (hb1.mono HBA.out.size))
    have hlt : w.heap.size < W1.heap.size := World.block_lt_of_cell? _ _ c0
    have c0' : (W1.alloc (.cells #[.bool true, .int .i64 (-1), .bool false, .bool false, .bool false, .bool true, .bool false] 132)).cell? ⟨w.heap.size, 0, none⟩ = some (.int .u8 o) := (World.cell?_of_block (Below.heap_alloc W1 _ _ hlt)).trans c0
    have c1' : (W1.alloc (.cells #[.bool true, .int .i64 (-1), .bool false, .bool false, .bool false, .bool true, .bool false] 132)).cell? ⟨w.heap.size, 1, none⟩ = some (.int .i64 d) := (World.cell?_of_block (Below.heap_alloc W1 _ _ hlt)).trans c1
    have c2' : (W1.alloc (.cells #[.bool true, .int .i64 (-1), .bool false, .bool false, .bool false, .bool true, .bool false] 132)).cell? ⟨w.heap.size, 2, none⟩ = some (.int .i64 s) := (World.cell?_of_block (Below.heap_alloc W1 _ _ hlt)).trans c2
    have c3' : (W1.alloc (.cells #[.bool true, .int .i64 (-1), .bool false, .bool false, .bool false, .bool true, .bool false] 132)).cell? ⟨w.heap.size, 3, none⟩ = some (.int .i64 n) := (World.cell?_of_block (Below.heap_alloc W1 _ _ hlt)).trans c3
    clear hb1 HC0 HC1 HC2 HC3 HS HBA hlt c0 c1 c2 c3
    go_wp2_with fail
    refine (in_any _ _ _ _).mono ?_
    rintro e w' ⟨rfl, rfl⟩
    obtain ⟨r1, hr1⟩ : ∃ r, r = inI d (-1) false := ⟨_, rfl⟩
    rw [← hr1]
    have E1 := Lib.hid hr1
    clear hr1
    cases r1 with
    | false =>
      have e1 := E1.out.symm
      go_wp2_with fail
      go_ret
      refine ⟨?_, HB1.out.alloc HB1.out.size _⟩
      rw [HZ.out, rightX]
      show Ending.returned (.int .i64 110) = _
      simp [e1]
    | true =>
      go_wp2_with fail
      refine (in_any _ _ _ _).mono ?_
      rintro e w' ⟨rfl, rfl⟩
      obtain ⟨r2, hr2⟩ : ∃ r, r = inI s 6 false := ⟨_, rfl⟩
      rw [← hr2]
      have E2 := Lib.hid hr2
      clear hr2
      cases r2 with
      | false =>
        have e2 := E2.out.symm
        go_wp2_with fail
        go_ret
        refine ⟨?_, HB1.out.alloc HB1.out.size _⟩
        rw [HZ.out, rightX]
        show Ending.returned (.int .i64 110) = _
        simp [e2]
      | true =>
        go_wp2_with fail
        refine (in_any _ _ _ _).mono ?_
        rintro e w' ⟨rfl, rfl⟩
        obtain ⟨r3, hr3⟩ : ∃ r, r = inI n 65535 true := ⟨_, rfl⟩
        rw [← hr3]
        have E3 := Lib.hid hr3
        clear hr3
        cases r3 with
        | false =>
          have e3 := E3.out.symm
          go_wp2_with fail
          go_ret
          refine ⟨?_, HB1.out.alloc HB1.out.size _⟩
          rw [HZ.out, rightX]
          show Ending.returned (.int .i64 110) = _
          simp [e3]
        | true =>
          have e1 := E1.out.symm
          have e2 := E2.out.symm
          have e3 := E3.out.symm
          go_wp2_with fail
          go_ret
          refine ⟨?_, HB1.out.alloc HB1.out.size _⟩
          rw [HZ.out, rightX]
          show Ending.returned (.int .i64 0) = _
          skip
          simp [e1, e2, e3]
  ·
    go_enter Try.func62, Try.ntmps62
    go_wp2_with fail
    refine HS.out.mono ?_
    rintro e W1 ⟨rfl, hb1⟩
    rw [HX.out]
    dsimp only [shpC]
    have c0 := (hb1.cell (World.block_lt_of_cell? _ _ HC0.out)).trans HC0.out
    have c1 := (hb1.cell (World.block_lt_of_cell? _ _ HC1.out)).trans HC1.out
    have c2 := (hb1.cell (World.block_lt_of_cell? _ _ HC2.out)).trans HC2.out
    have c3 := (hb1.cell (World.block_lt_of_cell? _ _ HC3.out)).trans HC3.out
    have HB1 := Lib.hid (HBA.out.trans (hb1.mono HBA.out.size))
    have hlt : w.heap.size < W1.heap.size := World.block_lt_of_cell? _ _ c0
    have c0' : (W1.alloc (.cells #[.bool true, .int .i64 (-1), .bool false, .bool false, .bool false, .bool false, .bool true] 132)).cell? ⟨w.heap.size, 0, none⟩ = some (.int .u8 o) := (World.cell?_of_block (Below.heap_alloc W1 _ _ hlt)).trans c0
    have c1' : (W1.alloc (.cells #[.bool true, .int .i64 (-1), .bool false, .bool false, .bool false, .bool false, .bool true] 132)).cell? ⟨w.heap.size, 1, none⟩ = some (.int .i64 d) := (World.cell?_of_block (Below.heap_alloc W1 _ _ hlt)).trans c1
    have c2' : (W1.alloc (.cells #[.bool true, .int .i64 (-1), .bool false, .bool false, .bool false, .bool false, .bool true] 132)).cell? ⟨w.heap.size, 2, none⟩ = some (.int .i64 s) := (World.cell?_of_block (Below.heap_alloc W1 _ _ hlt)).trans c2
    have c3' : (W1.alloc (.cells #[.bool true, .int .i64 (-1), .bool false, .bool false, .bool false, .bool false, .bool true] 132)).cell? ⟨w.heap.size, 3, none⟩ = some (.int .i64 n) := (World.cell?_of_block (Below.heap_alloc W1 _ _ hlt)).trans c3
    clear hb1 HC0 HC1 HC2 HC3 HS HBA hlt c0 c1 c2 c3
    go_wp2_with fail
    refine (in_any _ _ _ _).mono ?_
    rintro e w' ⟨rfl, rfl⟩
    obtain ⟨r1, hr1⟩ : ∃ r, r = inI d (-1) false := ⟨_, rfl⟩
    rw [← hr1]
    have E1 := Lib.hid hr1
    clear hr1
    cases r1 with
    | false =>
      have e1 := E1.out.symm
      go_wp2_with fail
      go_ret
      refine ⟨?_, HB1.out.alloc HB1.out.size _⟩
      rw [HZ.out, rightX]
      show Ending.returned (.int .i64 110) = _
      simp [e1]
    | true =>
      go_wp2_with fail
      refine (in_any _ _ _ _).mono ?_
      rintro e w' ⟨rfl, rfl⟩
      obtain ⟨r2, hr2⟩ : ∃ r, r = inI s 6 false := ⟨_, rfl⟩
      rw [← hr2]
      have E2 := Lib.hid hr2
      clear hr2
      cases r2 with
      | false =>
        have e2 := E2.out.symm
        go_wp2_with fail
        go_ret
        refine ⟨?_, HB1.out.alloc HB1.out.size _⟩
        rw [HZ.out, rightX]
        show Ending.returned (.int .i64 110) = _
        simp [e2]
      | true =>
        go_wp2_with fail
        refine (in_any _ _ _ _).mono ?_
        rintro e w' ⟨rfl, rfl⟩
        obtain ⟨r3, hr3⟩ : ∃ r, r = inI n 65535 true := ⟨_, rfl⟩
        rw [← hr3]
        have E3 := Lib.hid hr3
        clear hr3
        cases r3 with
        | false =>
          have e3 := E3.out.symm
          go_wp2_with fail
          go_ret
          refine ⟨?_, HB1.out.alloc HB1.out.size _⟩
          rw [HZ.out, rightX]
          show Ending.returned (.int .i64 110) = _
          simp [e3]
        | true =>
          have e1 := E1.out.symm
          have e2 := E2.out.symm
          have e3 := E3.out.symm
          go_wp2_with fail
          go_ret
          refine ⟨?_, HB1.out.alloc HB1.out.size _⟩
          rw [HZ.out, rightX]
          show Ending.returned (.int .i64 0) = _
          skip
          simp [e1, e2, e3]
  ·
    go_enter Try.func62, Try.ntmps62
    go_wp2_with fail
    refine HS.out.mono ?_
    rintro e W1 ⟨rfl, hb1⟩
    rw [HX.out]
    dsimp only [shpC]
    have c0 := (hb1.cell (World.block_lt_of_cell? _ _ HC0.out)).trans HC0.out
    have c1 := (hb1.cell (World.block_lt_of_cell? _ _ HC1.out)).trans HC1.out
    have c2 := (hb1.cell (World.block_lt_of_cell? _ _ HC2.out)).trans HC2.out
    have c3 := (hb1.cell (World.block_lt_of_cell? _ _ HC3.out)).trans HC3.out
    have HB1 := Lib.hid (HBA.out.trans (hb1.mono HBA.out.size))
    have hlt : w.heap.size < W1.heap.size := World.block_lt_of_cell? _ _ c0
    have c0' : (W1.alloc (.cells #[.bool false, .int .i64 0, .bool false, .bool false, .bool false, .bool false, .bool false] 132)).cell? ⟨w.heap.size, 0, none⟩ = some (.int .u8 o) := (World.cell?_of_block (Below.heap_alloc W1 _ _ hlt)).trans c0
    have c1' : (W1.alloc (.cells #[.bool false, .int .i64 0, .bool false, .bool false, .bool false, .bool false, .bool false] 132)).cell? ⟨w.heap.size, 1, none⟩ = some (.int .i64 d) := (World.cell?_of_block (Below.heap_alloc W1 _ _ hlt)).trans c1
    have c2' : (W1.alloc (.cells #[.bool false, .int .i64 0, .bool false, .bool false, .bool false, .bool false, .bool false] 132)).cell? ⟨w.heap.size, 2, none⟩ = some (.int .i64 s) := (World.cell?_of_block (Below.heap_alloc W1 _ _ hlt)).trans c2
    have c3' : (W1.alloc (.cells #[.bool false, .int .i64 0, .bool false, .bool false, .bool false, .bool false, .bool false] 132)).cell? ⟨w.heap.size, 3, none⟩ = some (.int .i64 n) := (World.cell?_of_block (Below.heap_alloc W1 _ _ hlt)).trans c3
    clear hb1 HC0 HC1 HC2 HC3 HS HBA hlt c0 c1 c2 c3
    go_wp2_with fail
    go_ret
    refine ⟨?_, HB1.out.alloc HB1.out.size _⟩
    rw [HZ.out, rightX]
    show Ending.returned (.int .i64 110) = _
    simp
end Go.Proofs.Ythmpagehmfillaa
