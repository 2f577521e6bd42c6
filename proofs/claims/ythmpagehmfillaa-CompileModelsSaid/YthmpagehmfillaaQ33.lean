/-
  THE WALK OF slices.Clone at parts. Conditions: at most 1000000 parts.
  THE WALKS OF code.more, code.Length. Conditions: an Op is a byte.
-/
import Derived.Test.YthmpagehmfillaaQ30
import Derived.Test.YthmpagehmfillaaQ32
import Derived.Lib.LazyBuf
import Derived.Lib.SliceRun
import Derived.Test.YthmpagehmfillaaQ23
import Derived.Lib.Hide
namespace Go.Proofs.Ythmpagehmfillaa
open Go.RowKit
set_option linter.unusedSimpArgs false
set_option linter.unusedVariables false
set_option maxRecDepth 100000
theorem run_build0p (w : World) (t e : TypeId) (hu : Try.prog.underlying t = some (.slice e)) (hs : (Try.prog.info? e).isSome = true) :
    (Instr.buildSlice t 0 #[]).run Try.prog w = .ok (.slice (some ⟨w.heap.size, 0, none⟩) 0 0) (w.alloc (.cells #[] e)) := by
  obtain ⟨ie, hie⟩ := Option.isSome_iff_exists.1 hs
  simp [Instr.buildSlice, run_underlying hu, sizeOf, typeInfo, hie, Instr.fill, newRow]
  rw [show (Array.map (fun x => default) (Array.range 0) : Array Value) = #[] from Array.eq_empty_of_size_eq_zero (by simp)]
theorem wpList_build0p {ops : Array Oper} {rest : List Oper} {o : Oper} {a : Act} {w : World} {Q : Exit → Act → World → Prop} (hg : o.guard = none) (t e : TypeId) (ho : o.op = .buildSlice t 0 #[])
    (hu : Try.prog.underlying t = some (.slice e)) (hs : (Try.prog.info? e).isSome = true)
    (h : wpList Try.prog ops Q rest (a.put o.dst (.slice (some ⟨w.heap.size, 0, none⟩) 0 0)) (w.alloc (.cells #[] e))) : wpList Try.prog ops Q (o :: rest) a w :=
  wpList_plain hg fun _ hK => by
    unfold Oper.wp execOp
    have hr := run_build0p w t e hu hs
    simp only [ho, Sem.run_bind]
    simp only [Array.map_empty] at hr ⊢
    rw [hr]
    exact hK _ _ h
theorem pr_built0 (w : World) (base : Nat) (hb : base ≤ w.heap.size) : PrL (w.alloc (.cells #[] 69)) base (.slice (some ⟨w.heap.size, 0, none⟩) 0 0) [] :=
  ⟨rfl, .inr ⟨w.heap.size, 0, #[], rfl, hb, heap_alloc_new w _, Nat.le_refl _, by simp, by simp, by simp [prF]⟩⟩
section
variable {W : World} {ops : Array Oper} {rest : List Oper} {o : Oper} {a : Act} {Q : Exit → Act → World → Prop} {base : Nat} {v : Value} {l : List PartS}
/-- 'out = append(out, m...)'. -/
theorem append_parts (s x : Operand) (hgd : o.guard = none) (ho : o.op = .call { callee := .builtin .append, args := #[s, x], argTypes := #[23, 23] }) (m : List PartS) (g off c : Nat)
    (hs : a.eval s = v) (hx : a.eval x = .slice (some ⟨g, off, none⟩) m.length c) (hown : PrL W base v l)
    (hc : ∀ i (hi : i < m.length) j, j < 7 → W.cell? ⟨g, off + (i * 7 + j), none⟩ = some (ptF m[i] j)) (hn : l.length + m.length ≤ 1000000) (hbase : base ≤ W.heap.size)
    (h : ∀ v' w', PrL w' base v' (l ++ m) → W.grownBy w' v.ownBlock → wpList Try.prog ops Q rest (a.put o.dst v') w') :
    wpList Try.prog ops Q (o :: rest) a W := by
  refine wpList_plain hgd fun _ hK => ?_
  obtain ⟨i, hi, hz, hs1, hb⟩ := info_parts info_pt
  obtain ⟨v', w', hrun, h2, h3, _, h5⟩ := run_append_own_at (P := Try.prog) W base 23 o.type 69 i _ 7 56 Try.underlying23 hi hz hs1 hb rfl (by omega) v l.length (prF l) hown ⟨g, off, none⟩ m.length c (prF m)
    (by rw [prF_length]) (fun j u hj => by
      have hjl : j < m.length * 7 := by have := (List.getElem?_eq_some_iff.1 hj).1; rwa [prF_length] at this
      have hi7 : j / 7 < m.length := by omega
      have hj7 : j % 7 < 7 := Nat.mod_lt _ (by omega)
      have e := prF_get hi7 hj7
      rw [show j / 7 * 7 + j % 7 = j by omega, hj, ptC_ptF _ hj7] at e
      rw [add_none]
      have := hc (j / 7) hi7 (j % 7) hj7
      rw [show j / 7 * 7 + j % 7 = j by omega] at this
      rw [this, ← e]) (fun u hu => by
      simp only [prF, List.mem_flatMap] at hu
      obtain ⟨p, _, hu⟩ := hu
      simp [ptC] at hu; rcases hu with rfl | rfl | rfl | rfl | rfl | rfl | rfl <;> rfl) (by unfold maxLen; omega) (by omega) hbase
  unfold Oper.wp execOp
  simp only [ho, resolve, invoke, builtin, Sem.run_bind, Sem.run_pure, Result.andThen_ok, List.map_toArray, List.map_cons, List.map_nil, hs, hx, hrun]
  refine hK _ _ (h v' w' ?_ h3)
  show World.ownsRow _ _ _ _ _ _ _
  rw [show prF (l ++ m) = prF l ++ prF m by simp [prF], List.length_append]
  exact h2
/-- .. where m is empty. -/
theorem append_parts0 (s x : Operand) (hgd : o.guard = none) (ho : o.op = .call { callee := .builtin .append, args := #[s, x], argTypes := #[23, 23] }) (ad : Addr) (c : Nat)
    (hs : a.eval s = v) (hx : a.eval x = .slice (some ad) 0 c) (hown : PrL W base v []) (hbase : base ≤ W.heap.size)
    (h : ∀ v' w', PrL w' base v' [] → W.grownBy w' v.ownBlock → wpList Try.prog ops Q rest (a.put o.dst v') w') :
    wpList Try.prog ops Q (o :: rest) a W := by
  refine wpList_plain hgd fun _ hK => ?_
  obtain ⟨i, hi, hz, hs1, hb⟩ := info_parts info_pt
  obtain ⟨v', w', hrun, h2, h3, _, h5⟩ := run_append_own_at (P := Try.prog) W base 23 o.type 69 i _ 7 56 Try.underlying23 hi hz hs1 hb rfl (by omega) v 0 (prF []) hown ad 0 c (prF [])
    rfl (fun j u hj => by simp [prF] at hj) (fun u hu => by simp [prF] at hu) (by unfold maxLen; omega) (by omega) hbase
  unfold Oper.wp execOp
  simp only [ho, resolve, invoke, builtin, Sem.run_bind, Sem.run_pure, Result.andThen_ok, List.map_toArray, List.map_cons, List.map_nil, hs, hx, hrun]
  exact hK _ _ (h v' w' h2 h3)
end
set_option maxHeartbeats 8000000 in
theorem clone_any (l : List PartS) (v : Value) (S : Nat → Prop) (w : World) (hl : l.length ≤ 100000) (hp : PrT w S v l) : Calls Try.prog 18 #[v] w (CqO l w) := by
  have hp0 := hp
  obtain ⟨A, c, rfl, hc, hm, hcl⟩ := hp
  rcases A with _ | ad
  · have hn : l = [] := by
      rcases List.eq_nil_or_concat l with h | ⟨l', x, h⟩
      · exact h
      · obtain ⟨g, o, e, _⟩ := hcl (by rw [h]; simp)
        cases e
    subst hn
    clear hp0 hcl hc hm hl
    obtain ⟨A, hA⟩ : ∃ A : Option Addr, A = none := ⟨_, rfl⟩
    rw [← hA]
    obtain ⟨n, hn⟩ : ∃ n : Nat, n = ([] : List PartS).length := ⟨_, rfl⟩
    rw [← hn]
    have heq : ∀ W : World, (binOp .eql 23 (.slice A n c) (.slice none 0 0)).run Try.prog W = .ok (.bool true) W := fun W => by
      rw [Lib.run_eql_slice_nil W 23 69 A n c 0 0 Try.underlying23, hA]; rfl
    clear hA hn
    go_enter Try.func18, Try.ntmps18
    go_wp2_with fail
    go_ret
    exact ⟨_, rfl, PrT.nil _ _, Below.refl _ _⟩
  · have hba : Below w.heap.size w (w.alloc (.cells #[] 69)) := (Below.refl _ _).alloc (Nat.le_refl _) _
    obtain ⟨g, o, had, hcc⟩ : ∃ g o, (l ≠ [] → ad = ⟨g, o, none⟩) ∧ ∀ i (hi : i < l.length) j, j < 7 → (w.alloc (.cells #[] 69)).cell? ⟨g, o + (i * 7 + j), none⟩ = some (ptF l[i] j) := by
      by_cases hl0 : l = []
      · subst hl0
        exact ⟨0, 0, fun h => absurd rfl h, fun i hi => absurd hi (Nat.not_lt_zero _)⟩
      · obtain ⟨g, o, e, hs, hg, h⟩ := hcl hl0
        injection e with e
        exact ⟨g, o, fun _ => e, fun i hi j hj => (hba.cell (p := ⟨g, o + (i * 7 + j), none⟩) hg).trans (h i hi j hj)⟩
    have HPB := Lib.hid (pr_built0 w w.heap.size (Nat.le_refl _))
    have HBA := Lib.hid hba
    have HL := Lib.hid hl
    have HCC := Lib.hid hcc
    by_cases hl0 : l = []
    · subst hl0
      clear hp0 hcl hcc hba hl hc hm had
      obtain ⟨n, hn⟩ : ∃ n : Nat, n = ([] : List PartS).length := ⟨_, rfl⟩
      rw [← hn]
      have HN := Lib.hid hn
      have heq : ∀ W : World, (binOp .eql 23 (.slice (some ad) n c) (.slice none 0 0)).run Try.prog W = .ok (.bool false) W := fun W => Lib.run_eql_slice_nil W 23 69 (some ad) n c 0 0 Try.underlying23
      clear hn
      go_enter Try.func18, Try.ntmps18
      go_wp2_with (first
        | (refine wpList_build0p rfl 23 69 rfl Try.underlying23 (by kernel_rfl) ?_)
        | (at_builtin; refine append_parts0 (.tmp 5) (.tmp 6) rfl rfl ad c rfl (by rw [show (0 : Nat) = n from HN.out.symm]; rfl) HPB.out (by rw [World.size_alloc]; omega) ?_; intro v2 w2 ho2 hg2; have HO := Lib.hid ho2; have HG := Lib.hid hg2; clear ho2 hg2))
      go_ret
      exact ⟨_, rfl, HO.out.tr, HBA.out.grown HG.out (by rw [World.size_alloc]; omega) (fun k e => (HPB.out.lt k e).1)⟩
    · obtain rfl := had hl0
      clear hp0 hcl hcc hba hl hc hm hl0
      have heq : ∀ W : World, (binOp .eql 23 (.slice (some ⟨g, o, none⟩) l.length c) (.slice none 0 0)).run Try.prog W = .ok (.bool false) W := fun W => Lib.run_eql_slice_nil W 23 69 (some ⟨g, o, none⟩) l.length c 0 0 Try.underlying23
      go_enter Try.func18, Try.ntmps18
      go_wp2_with (first
        | (refine wpList_build0p rfl 23 69 rfl Try.underlying23 (by kernel_rfl) ?_)
        | (at_builtin; refine append_parts (.tmp 5) (.tmp 6) rfl rfl l g o c rfl rfl HPB.out HCC.out (by have := HL.out; simp; omega) (by rw [World.size_alloc]; omega) ?_; intro v2 w2 ho2 hg2; have HO := Lib.hid ho2; have HG := Lib.hid hg2; clear ho2 hg2))
      go_ret
      exact ⟨_, rfl, HO.out.tr, HBA.out.grown HG.out (by rw [World.size_alloc]; omega) (fun k e => (HPB.out.lt k e).1)⟩
end Go.Proofs.Ythmpagehmfillaa
namespace Go.Proofs.Ythmpagehmfillaa
open Go.RowKit
set_option linter.unusedSimpArgs false
set_option linter.unusedVariables false
set_option maxHeartbeats 8000000 in
theorem more_any (o : Nat) (ho : o < 256) (d s n : Int) (w : World) : Calls Try.prog 61 #[insV o d s n] w fun e w' => e = .returned (.int .i64 (moreI ⟨o, d, s, n⟩)) ∧ Below w.heap.size w w' := by
  have hm := shp_mem o
  unfold moreI insV
  generalize hx : shp o = x at hm ⊢
  obtain ⟨z, hz⟩ : ∃ z : Int, z = moreX x s := ⟨_, rfl⟩
  rw [← hz]
  have HZ := Lib.hid hz
  clear hz
  have HX := Lib.hid hx
  clear hx
  unfold shapes at hm
  simp only [List.mem_cons, List.not_mem_nil, or_false] at hm
  have hba : Below w.heap.size w (w.alloc (.cells #[.int .u8 o, .int .i64 d, .int .i64 s, .int .i64 n] 56)) := (Below.refl _ _).alloc (Nat.le_refl _) _
  have HS := Lib.hid (shape_any o ho (w.alloc (.cells #[.int .u8 o, .int .i64 d, .int .i64 s, .int .i64 n] 56)))
  have c2 : (w.alloc (.cells #[.int .u8 o, .int .i64 d, .int .i64 s, .int .i64 n] 56)).cell? ⟨w.heap.size, 2, none⟩ = some (.int .i64 s) := by rw [cell_of_row _ _ _ _ _ _ (heap_alloc_new w _)]; rfl
  have HBA := Lib.hid hba
  have HC2 := Lib.hid c2
  clear hba c2 ho
  rcases hm with rfl | rfl | rfl | rfl | rfl | rfl | rfl | rfl | rfl | rfl
  ·
    go_enter Try.func61, Try.ntmps61
    go_wp2_with fail
    refine HS.out.mono ?_
    rintro e W1 ⟨rfl, hb1⟩
    rw [HX.out]
    dsimp only [shpC]
    have c2 := (hb1.cell (World.block_lt_of_cell? _ _ HC2.out)).trans HC2.out
    have HB1 := Lib.hid (HBA.out.trans (hb1.mono HBA.out.size))
    have hlt : w.heap.size < W1.heap.size := World.block_lt_of_cell? _ _ c2
    have c2' : (W1.alloc (.cells #[.bool true, .int .i64 (-1), .bool false, .bool false, .bool false, .bool false, .bool false] 132)).cell? ⟨w.heap.size, 2, none⟩ = some (.int .i64 s) := (World.cell?_of_block (Below.heap_alloc W1 _ _ hlt)).trans c2
    clear hb1 HC2 HS HBA hlt c2
    go_wp2_with fail
    go_ret
    refine ⟨?_, HB1.out.alloc HB1.out.size _⟩
    rw [HZ.out]
    simp [moreX]
  ·
    go_enter Try.func61, Try.ntmps61
    go_wp2_with fail
    refine HS.out.mono ?_
    rintro e W1 ⟨rfl, hb1⟩
    rw [HX.out]
    dsimp only [shpC]
    have c2 := (hb1.cell (World.block_lt_of_cell? _ _ HC2.out)).trans HC2.out
    have HB1 := Lib.hid (HBA.out.trans (hb1.mono HBA.out.size))
    have hlt : w.heap.size < W1.heap.size := World.block_lt_of_cell? _ _ c2
    have c2' : (W1.alloc (.cells #[.bool true, .int .i64 6, .bool true, .bool false, .bool false, .bool false, .bool false] 132)).cell? ⟨w.heap.size, 2, none⟩ = some (.int .i64 s) := (World.cell?_of_block (Below.heap_alloc W1 _ _ hlt)).trans c2
    clear hb1 HC2 HS HBA hlt c2
    go_wp2_with fail
    go_ret
    refine ⟨?_, HB1.out.alloc HB1.out.size _⟩
    rw [HZ.out]
    simp [moreX]
  ·
    go_enter Try.func61, Try.ntmps61
    go_wp2_with fail
    refine HS.out.mono ?_
    rintro e W1 ⟨rfl, hb1⟩
    rw [HX.out]
    dsimp only [shpC]
    have c2 := (hb1.cell (World.block_lt_of_cell? _ _ HC2.out)).trans HC2.out
    have HB1 := Lib.hid (HBA.out.trans (hb1.mono HBA.out.size))
    have hlt : w.heap.size < W1.heap.size := World.block_lt_of_cell? _ _ c2
    have c2' : (W1.alloc (.cells #[.bool true, .int .i64 6, .bool false, .bool false, .bool true, .bool false, .bool false] 132)).cell? ⟨w.heap.size, 2, none⟩ = some (.int .i64 s) := (World.cell?_of_block (Below.heap_alloc W1 _ _ hlt)).trans c2
    clear hb1 HC2 HS HBA hlt c2
    go_wp2_with fail
    go_ret
    refine ⟨?_, HB1.out.alloc HB1.out.size _⟩
    rw [HZ.out]
    simp [moreX]
  ·
    go_enter Try.func61, Try.ntmps61
    go_wp2_with fail
    refine HS.out.mono ?_
    rintro e W1 ⟨rfl, hb1⟩
    rw [HX.out]
    dsimp only [shpC]
    have c2 := (hb1.cell (World.block_lt_of_cell? _ _ HC2.out)).trans HC2.out
    have HB1 := Lib.hid (HBA.out.trans (hb1.mono HBA.out.size))
    have hlt : w.heap.size < W1.heap.size := World.block_lt_of_cell? _ _ c2
    have c2' : (W1.alloc (.cells #[.bool true, .int .i64 6, .bool false, .bool false, .bool false, .bool false, .bool false] 132)).cell? ⟨w.heap.size, 2, none⟩ = some (.int .i64 s) := (World.cell?_of_block (Below.heap_alloc W1 _ _ hlt)).trans c2
    clear hb1 HC2 HS HBA hlt c2
    go_wp2_with fail
    go_ret
    refine ⟨?_, HB1.out.alloc HB1.out.size _⟩
    rw [HZ.out]
    simp [moreX]
  ·
    by_cases hs : s = 7
    ·
      have hsb : (s == 7) = true := by rw [beq_iff_eq]; exact hs
      have HS7 := Lib.hid hs
      clear hs
      go_enter Try.func61, Try.ntmps61
      go_wp2_with fail
      refine HS.out.mono ?_
      rintro e W1 ⟨rfl, hb1⟩
      rw [HX.out]
      dsimp only [shpC]
      have c2 := (hb1.cell (World.block_lt_of_cell? _ _ HC2.out)).trans HC2.out
      have HB1 := Lib.hid (HBA.out.trans (hb1.mono HBA.out.size))
      have hlt : w.heap.size < W1.heap.size := World.block_lt_of_cell? _ _ c2
      have c2' : (W1.alloc (.cells #[.bool true, .int .i64 (-1), .bool false, .bool true, .bool false, .bool false, .bool false] 132)).cell? ⟨w.heap.size, 2, none⟩ = some (.int .i64 s) := (World.cell?_of_block (Below.heap_alloc W1 _ _ hlt)).trans c2
      clear hb1 HC2 HS HBA hlt c2
      go_wp2_with fail
      go_ret
      refine ⟨?_, HB1.out.alloc HB1.out.size _⟩
      rw [HZ.out]
      simp [moreX, HS7.out]
    ·
      have hsb : (s == 7) = false := by rw [beq_eq_false_iff_ne]; exact hs
      have HS7 := Lib.hid hs
      clear hs
      go_enter Try.func61, Try.ntmps61
      go_wp2_with fail
      refine HS.out.mono ?_
      rintro e W1 ⟨rfl, hb1⟩
      rw [HX.out]
      dsimp only [shpC]
      have c2 := (hb1.cell (World.block_lt_of_cell? _ _ HC2.out)).trans HC2.out
      have HB1 := Lib.hid (HBA.out.trans (hb1.mono HBA.out.size))
      have hlt : w.heap.size < W1.heap.size := World.block_lt_of_cell? _ _ c2
      have c2' : (W1.alloc (.cells #[.bool true, .int .i64 (-1), .bool false, .bool true, .bool false, .bool false, .bool false] 132)).cell? ⟨w.heap.size, 2, none⟩ = some (.int .i64 s) := (World.cell?_of_block (Below.heap_alloc W1 _ _ hlt)).trans c2
      clear hb1 HC2 HS HBA hlt c2
      go_wp2_with fail
      go_ret
      refine ⟨?_, HB1.out.alloc HB1.out.size _⟩
      rw [HZ.out]
      simp [moreX, HS7.out]
  ·
    go_enter Try.func61, Try.ntmps61
    go_wp2_with fail
    refine HS.out.mono ?_
    rintro e W1 ⟨rfl, hb1⟩
    rw [HX.out]
    dsimp only [shpC]
    have c2 := (hb1.cell (World.block_lt_of_cell? _ _ HC2.out)).trans HC2.out
    have HB1 := Lib.hid (HBA.out.trans (hb1.mono HBA.out.size))
    have hlt : w.heap.size < W1.heap.size := World.block_lt_of_cell? _ _ c2
    have c2' : (W1.alloc (.cells #[.bool true, .int .i64 3, .bool false, .bool false, .bool true, .bool false, .bool false] 132)).cell? ⟨w.heap.size, 2, none⟩ = some (.int .i64 s) := (World.cell?_of_block (Below.heap_alloc W1 _ _ hlt)).trans c2
    clear hb1 HC2 HS HBA hlt c2
    go_wp2_with fail
    go_ret
    refine ⟨?_, HB1.out.alloc HB1.out.size _⟩
    rw [HZ.out]
    simp [moreX]
  ·
    go_enter Try.func61, Try.ntmps61
    go_wp2_with fail
    refine HS.out.mono ?_
    rintro e W1 ⟨rfl, hb1⟩
    rw [HX.out]
    dsimp only [shpC]
    have c2 := (hb1.cell (World.block_lt_of_cell? _ _ HC2.out)).trans HC2.out
    have HB1 := Lib.hid (HBA.out.trans (hb1.mono HBA.out.size))
    have hlt : w.heap.size < W1.heap.size := World.block_lt_of_cell? _ _ c2
    have c2' : (W1.alloc (.cells #[.bool true, .int .i64 (-1), .bool false, .bool false, .bool true, .bool false, .bool false] 132)).cell? ⟨w.heap.size, 2, none⟩ = some (.int .i64 s) := (World.cell?_of_block (Below.heap_alloc W1 _ _ hlt)).trans c2
    clear hb1 HC2 HS HBA hlt c2
    go_wp2_with fail
    go_ret
    refine ⟨?_, HB1.out.alloc HB1.out.size _⟩
    rw [HZ.out]
    simp [moreX]
  ·
    go_enter Try.func61, Try.ntmps61
    go_wp2_with fail
    refine HS.out.mono ?_
    rintro e W1 ⟨rfl, hb1⟩
    rw [HX.out]
    dsimp only [shpC]
    have c2 := (hb1.cell (World.block_lt_of_cell? _ _ HC2.out)).trans HC2.out
    have HB1 := Lib.hid (HBA.out.trans (hb1.mono HBA.out.size))
    have hlt : w.heap.size < W1.heap.size := World.block_lt_of_cell? _ _ c2
    have c2' : (W1.alloc (.cells #[.bool true, .int .i64 (-1), .bool false, .bool false, .bool false, .bool true, .bool false] 132)).cell? ⟨w.heap.size, 2, none⟩ = some (.int .i64 s) := (World.cell?_of_block (Below.heap_alloc W1 _ _ hlt)).trans c2
    clear hb1 HC2 HS HBA hlt c2
    go_wp2_with fail
    go_ret
    refine ⟨?_, HB1.out.alloc HB1.out.size _⟩
    rw [HZ.out]
    simp [moreX]
  ·
    go_enter Try.func61, Try.ntmps61
    go_wp2_with fail
    refine HS.out.mono ?_
    rintro e W1 ⟨rfl, hb1⟩
    rw [HX.out]
    dsimp only [shpC]
    have c2 := (hb1.cell (World.block_lt_of_cell? _ _ HC2.out)).trans HC2.out
    have HB1 := Lib.hid (HBA.out.trans (hb1.mono HBA.out.size))
    have hlt : w.heap.size < W1.heap.size := World.block_lt_of_cell? _ _ c2
    have c2' : (W1.alloc (.cells #[.bool true, .int .i64 (-1), .bool false, .bool false, .bool false, .bool false, .bool true] 132)).cell? ⟨w.heap.size, 2, none⟩ = some (.int .i64 s) := (World.cell?_of_block (Below.heap_alloc W1 _ _ hlt)).trans c2
    clear hb1 HC2 HS HBA hlt c2
    go_wp2_with fail
    go_ret
    refine ⟨?_, HB1.out.alloc HB1.out.size _⟩
    rw [HZ.out]
    simp [moreX]
  ·
    go_enter Try.func61, Try.ntmps61
    go_wp2_with fail
    refine HS.out.mono ?_
    rintro e W1 ⟨rfl, hb1⟩
    rw [HX.out]
    dsimp only [shpC]
    have c2 := (hb1.cell (World.block_lt_of_cell? _ _ HC2.out)).trans HC2.out
    have HB1 := Lib.hid (HBA.out.trans (hb1.mono HBA.out.size))
    have hlt : w.heap.size < W1.heap.size := World.block_lt_of_cell? _ _ c2
    have c2' : (W1.alloc (.cells #[.bool false, .int .i64 0, .bool false, .bool false, .bool false, .bool false, .bool false] 132)).cell? ⟨w.heap.size, 2, none⟩ = some (.int .i64 s) := (World.cell?_of_block (Below.heap_alloc W1 _ _ hlt)).trans c2
    clear hb1 HC2 HS HBA hlt c2
    go_wp2_with fail
    go_ret
    refine ⟨?_, HB1.out.alloc HB1.out.size _⟩
    rw [HZ.out]
    simp [moreX]
theorem moreI_le (i : InsS) : moreI i ≤ 2 := by
  unfold moreI moreX
  split
  · omega
  split <;> omega
theorem len_any (o : Nat) (ho : o < 256) (d s n : Int) (w : World) : Calls Try.prog 79 #[insV o d s n] w fun e w' => e = .returned (.int .i64 (lenI ⟨o, d, s, n⟩)) ∧ Below w.heap.size w w' := by
  obtain ⟨z, hz⟩ : ∃ z, z = lenI ⟨o, d, s, n⟩ := ⟨_, rfl⟩
  rw [← hz]
  unfold lenI at hz
  obtain ⟨m, hm⟩ : ∃ m, m = moreI ⟨o, d, s, n⟩ := ⟨_, rfl⟩
  have hml := moreI_le ⟨o, d, s, n⟩
  have HM := Lib.hid (more_any o ho d s n)
  have HR := Lib.hid (right_any o ho d s n)
  rw [← hm] at HM hz hml
  obtain ⟨r, hr⟩ : ∃ r, r = rightI o d s n := ⟨_, rfl⟩
  rw [show rightI (InsS.mk o d s n).o (InsS.mk o d s n).d (InsS.mk o d s n).s (InsS.mk o d s n).n = r from hr.symm] at hz
  rw [← hr] at HR
  unfold insV at HM HR ⊢
  have hba : Below w.heap.size w (w.alloc (.cells #[.int .u8 o, .int .i64 d, .int .i64 s, .int .i64 n] 56)) := (Below.refl _ _).alloc (Nat.le_refl _) _
  have c0 : (w.alloc (.cells #[.int .u8 o, .int .i64 d, .int .i64 s, .int .i64 n] 56)).cell? ⟨w.heap.size, 0, none⟩ = some (.int .u8 o) := by rw [cell_of_row _ _ _ _ _ _ (heap_alloc_new w _)]; rfl
  have c1 : (w.alloc (.cells #[.int .u8 o, .int .i64 d, .int .i64 s, .int .i64 n] 56)).cell? ⟨w.heap.size, 1, none⟩ = some (.int .i64 d) := by rw [cell_of_row _ _ _ _ _ _ (heap_alloc_new w _)]; rfl
  have c2 : (w.alloc (.cells #[.int .u8 o, .int .i64 d, .int .i64 s, .int .i64 n] 56)).cell? ⟨w.heap.size, 2, none⟩ = some (.int .i64 s) := by rw [cell_of_row _ _ _ _ _ _ (heap_alloc_new w _)]; rfl
  have c3 : (w.alloc (.cells #[.int .u8 o, .int .i64 d, .int .i64 s, .int .i64 n] 56)).cell? ⟨w.heap.size, 3, none⟩ = some (.int .i64 n) := by rw [cell_of_row _ _ _ _ _ _ (heap_alloc_new w _)]; rfl
  have HBA := Lib.hid hba
  have HC := Lib.hid (And.intro c0 (And.intro c1 (And.intro c2 c3)))
  have HZ := Lib.hid hz
  have hw : IntKind.i64.wrap (1 + (m : Int)) = ((1 + m : Nat) : Int) := by rw [IntKind.wrap_i64]; omega; all_goals omega
  clear hba hm hz hr hml ho c0 c1 c2 c3
  have k1 : ∀ w' : World, Below (w.alloc (.cells #[.int .u8 o, .int .i64 d, .int .i64 s, .int .i64 n] 56)).heap.size (w.alloc (.cells #[.int .u8 o, .int .i64 d, .int .i64 s, .int .i64 n] 56)) w' → ∀ (p : Addr) (v : Value), (w.alloc (.cells #[.int .u8 o, .int .i64 d, .int .i64 s, .int .i64 n] 56)).cell? p = some v → w'.cell? p = some v := fun w' h p v hc => (h.cell (World.block_lt_of_cell? _ _ hc)).trans hc
  have K1 := Lib.hid k1
  clear k1
  have d0 := HC.out.1
  have d1 := HC.out.2.1
  have d2 := HC.out.2.2.1
  have d3 := HC.out.2.2.2
  go_enter Try.func79, Try.ntmps79
  go_wp2_with fail
  refine (HR.out _).mono ?_
  rintro e w1 ⟨rfl, hb1⟩
  have e0 := K1.out _ hb1 _ _ HC.out.1
  have e1 := K1.out _ hb1 _ _ HC.out.2.1
  have e2 := K1.out _ hb1 _ _ HC.out.2.2.1
  have e3 := K1.out _ hb1 _ _ HC.out.2.2.2
  have HB1 := Lib.hid (HBA.out.trans (hb1.mono HBA.out.size))
  clear hb1 d0 d1 d2 d3 HC K1
  cases r with
  | false =>
    go_wp2_with fail
    go_ret
    exact ⟨by rw [HZ.out]; rfl, HB1.out⟩
  | true =>
    go_wp2_with fail
    refine (HM.out _).mono ?_
    rintro e w2 ⟨rfl, hb2⟩
    have HB2 := Lib.hid (HB1.out.trans (hb2.mono HB1.out.size))
    clear hb2
    go_wp2_with fail
    go_ret
    exact ⟨by rw [HZ.out]; rfl, HB2.out⟩
end Go.Proofs.Ythmpagehmfillaa
