/-
  THE WALKS OF quillpressref07's ReadAt. Conditions: the document's disk is a value whose lists read.
-/
import Derived.Test.YtkmjbfednmidbaaDiskP3
import Derived.Deep.RegionLaw
import Derived.Deep.RegionHeld3
import Derived.BigQuiet
import Derived.Deep.Cut
import Derived.Deep.QuietTactic
namespace Go.Proofs.Ytkmjbfednmidbaa
open Go.RowKit
set_option linter.unusedSimpArgs false
set_option linter.unusedVariables false

theorem results_row_tmp2 {fn : Func} {p u u' : Tmp} (h : fn.results = #[.cell p 63, .tmp u, .tmp u']) (tmps : Array Value) (w : World) (g : Nat) (cs : Array Value)
    (hp : tmps.getD p undef = .pointer (some ⟨g, 0, none⟩)) (hg : w.heap[g]? = some (.cells cs 63 (0, 0))) (hi : cs.size = 8) (x y : Value) (hu : tmps.getD u undef = x) (hu' : tmps.getD u' undef = y) :
    (results fn tmps).run Try.prog w = .ok (.tuple #[.agg cs, x, y]) w := by
  have hp' : tmps[p]?.getD undef = .pointer (some ⟨g, 0, none⟩) := by simpa using hp
  have hu1 : tmps[u]?.getD undef = x := by simpa using hu
  have hu2 : tmps[u']?.getD undef = y := by simpa using hu'
  simp [results, h, hp', hu1, hu2, asAddr, run_loadVar_row w g 63 63 cs (0, 0) _ hg Try.underlying63 rfl (by rw [hi]; exact rf_size)]
section
variable {ops : Array Oper} {o : Oper} {a : Act} {w : World} {K : Act → World → Prop} {Q : Exit → Act → World → Prop} {E : Prop}
theorem step_load_row (hgd : o.guard = none) (x : Operand) (ho : o.op = .load 63 x) (g : Nat) (hx : a.eval x = .pointer (some ⟨g, 0, none⟩)) (cs : Array Value) (hg : w.heap[g]? = some (.cells cs 63 (0, 0))) (hi : cs.size = 8)
    (h : K (a.put o.dst (.agg cs)) w) : if Region.wanted o (yielded ops a.tmps) = true then Oper.wp Try.prog o a w K Q else E := by
  rw [if_pos (by simp [Region.wanted, hgd])]
  exact wp_load_row 63 x ho g hx 63 cs (0, 0) _ hg Try.underlying63 rfl (by rw [hi]; exact rf_size) h
theorem step_store_row (hgd : o.guard = none) (x y : Operand) (ho : o.op = .store 63 x y) (g : Nat) (cells : Array Value) (hx : a.eval x = .pointer (some ⟨g, 0, none⟩)) (hy : a.eval y = .agg cells) (old : Array Value) (hg : w.heap[g]? = some (.cells old 63 (0, 0)))
    (hi : cells.size = 8) (hold : old.size = 8) (h1 : cells.all (·.oneCell') = true) (h : K (a.put o.dst undef) (w.setRow g cells)) : if Region.wanted o (yielded ops a.tmps) = true then Oper.wp Try.prog o a w K Q else E := by
  rw [if_pos (by simp [Region.wanted, hgd])]
  exact wp_store_row 63 x y ho g cells hx hy 63 old hg (by rw [hi]; exact rf_size) (hold.trans hi.symm) h1 h
end
theorem Bx.cells {w Y : World} {g0 : Nat} {q : RfS} {A B : Option Addr} {c e : Nat} (h : Bx w Y g0 q A B c e) : Y.cell? ⟨g0, 0, none⟩ = some (.int .i64 q.most) ∧ Y.cell? ⟨g0, 1, none⟩ = some (.slice A q.now.length c) ∧ Y.cell? ⟨g0, 2, none⟩ = some (.slice B q.old.length e) ∧ Y.cell? ⟨g0, 3, none⟩ = some (.int .i64 q.floor) ∧
    Y.cell? ⟨g0, 4, none⟩ = some (.bool q.down) ∧ Y.cell? ⟨g0, 5, none⟩ = some (.int .i64 q.armed) ∧ Y.cell? ⟨g0, 6, none⟩ = some (.int .i64 q.fails) ∧ Y.cell? ⟨g0, 7, none⟩ = some (.int .i64 q.err) := by
  refine ⟨?_, ?_, ?_, ?_, ?_, ?_, ?_, ?_⟩
  all_goals
    rw [cell_of_row _ _ _ _ _ _ h.box]
    rfl
theorem row8 {Y : World} {g : Nat} {z : Array Value} {t : TypeId} (h : Y.heap[g]? = some (.cells z t (0, 0))) (hz : z.size = 8) : ∃ v0 v1 v2 v3 v4 v5 v6 v7, Y.cell? ⟨g, 0, none⟩ = some v0 ∧ Y.cell? ⟨g, 1, none⟩ = some v1 ∧ Y.cell? ⟨g, 2, none⟩ = some v2 ∧ Y.cell? ⟨g, 3, none⟩ = some v3 ∧
    Y.cell? ⟨g, 4, none⟩ = some v4 ∧ Y.cell? ⟨g, 5, none⟩ = some v5 ∧ Y.cell? ⟨g, 6, none⟩ = some v6 ∧ Y.cell? ⟨g, 7, none⟩ = some v7 ∧ ∀ i, Y.frozen? ⟨g, i, none⟩ = false := by
  have key : ∀ i, (hi : i < 8) → Y.cell? ⟨g, i, none⟩ = some (z[i]'(by omega)) := fun i hi => by rw [cell_of_row _ _ _ _ _ _ h, Array.getElem?_eq_getElem (by omega)]
  exact ⟨_, _, _, _, _, _, _, _, key 0 (by omega), key 1 (by omega), key 2 (by omega), key 3 (by omega), key 4 (by omega), key 5 (by omega), key 6 (by omega), key 7 (by omega), fun i => by simp [World.frozen?, h]⟩
theorem Rd.grownRow {w w' : World} {A : Option Addr} {l : List Nat} (h : Rd w A l) {g : Nat} {cs : Array Value} {t : TypeId} (hg : w.heap[g]? = some (.cells cs t (0, 0))) (hc : ∀ (i : Nat) (x : Int), cs[i]? ≠ some (Value.int .u8 x)) (hw : w.grownBy w' (some g)) : Rd w' A l := by
  by_cases hn : l = []
  · subst hn
    exact ⟨by simp, fun h => absurd rfl h⟩
  · refine h.grown hw fun a ha e => ?_
    injection e with e
    obtain ⟨b, o, rfl, hb, hcell⟩ := h.2 hn
    injection ha with ha
    subst ha
    have e : b = g := e
    subst e
    have h0 := hcell 0 (List.length_pos_iff.2 hn)
    rw [Nat.add_zero, cell_of_row _ _ _ _ _ _ hg] at h0
    exact hc _ _ h0
theorem Bx.fin8 {w Y : World} {g0 : Nat} {q : RfS} {A B : Option Addr} {c e : Nat} (h : Bx w Y g0 q A B c e) {z : Array Value} (hz : Y.heap[g0 + 1]? = some (.cells z 63 (0, 0))) (hn : ∀ (i : Nat) (x : Int), z[i]? ≠ some (Value.int .u8 x)) {Z : World} (hg : Y.grownBy Z (some (g0 + 1))) :
    RfV Z (.agg (rfC q A B c e)) q ∧ Below w.heap.size w Z :=
  ⟨⟨A, c, B, e, rfl, h.len.1, h.len.2, h.rd.1.grownRow hz hn hg, h.rd.2.grownRow hz hn hg, h.wf⟩, below_of_grown h.below hg h.below.size (by have := h.g; omega)⟩
theorem set8 {w : World} {g : Nat} {z : Array Value} {t : TypeId} (h : w.heap[g]? = some (.cells z t (0, 0))) (hz : z.size = 8) (a0 a1 a2 a3 a4 a5 a6 a7 : Value) :
    ((((((((w.setCell ⟨g, 0, none⟩ a0).setCell ⟨g, 1, none⟩ a1).setCell ⟨g, 2, none⟩ a2).setCell ⟨g, 3, none⟩ a3).setCell ⟨g, 4, none⟩ a4).setCell ⟨g, 5, none⟩ a5).setCell ⟨g, 6, none⟩ a6).setCell ⟨g, 7, none⟩ a7).heap[g]? = some (.cells #[a0, a1, a2, a3, a4, a5, a6, a7] t (0, 0)) ∧
    w.grownBy ((((((((w.setCell ⟨g, 0, none⟩ a0).setCell ⟨g, 1, none⟩ a1).setCell ⟨g, 2, none⟩ a2).setCell ⟨g, 3, none⟩ a3).setCell ⟨g, 4, none⟩ a4).setCell ⟨g, 5, none⟩ a5).setCell ⟨g, 6, none⟩ a6).setCell ⟨g, 7, none⟩ a7) (some g) := by
  refine ⟨?_, grown_set2 (grown_set2 (grown_set2 (grown_set2 (grown_refl _ _) 0 1 a0 a1) 2 3 a2 a3) 4 5 a4 a5) 6 7 a6 a7⟩
  rw [setCell_heap (setCell_heap (setCell_heap (setCell_heap (setCell_heap (setCell_heap (setCell_heap (setCell_heap h a0) a1) a2) a3) a4) a5) a6) a7]
  obtain ⟨l⟩ := z
  match l, hz with
  | [_, _, _, _, _, _, _, _], _ => simp
def RfS.readL (r : RfS) (a n : Nat) : List Nat := if r.pre.1 = 0 then (r.now.drop a).take n else []
set_option maxRecDepth 100000 in
set_option maxHeartbeats 4000000 in
theorem rread_any (v : Value) (r : RfS) (a n : Nat) (w : World) (h : RfV w v r) (hn : a + n ≤ r.now.length) (hp : r.pre.2.now = r.now) :
    Calls Try.prog 38 #[v, .int .i64 a, .int .i64 n] w fun e w' => ∃ v' A c, e = .returned (.tuple #[v', .slice A (r.readL a n).length c, .int .i64 r.pre.1]) ∧ RfV w' v' r.pre.2 ∧ Rd w' A (r.readL a n) ∧ Below w.heap.size w w' := by
  have hnl : r.now.length ≤ 4194304 := by obtain ⟨_, _, _, _, _, h2, h3, h4, h5, h6, h7, _⟩ := h; omega
  have k1 : ¬ (a : Int) < 0 := by omega
  have k2 : ¬ (n : Int) < 0 := by omega
  have k3 : ¬ (r.now.length : Int) < a := by omega
  have k4 : ¬ (r.now.length : Int) - a < n := by omega
  have k5 : IntKind.i64.wrap ((r.now.length : Int) - a) = (r.now.length : Int) - a := by simp [IntKind.wrap, IntKind.signed, IntKind.bits]; omega
  have HP := Lib.hid hp
  clear hp
  obtain ⟨A1, c1, B1, e1, rfl, hv⟩ := h
  have HV := Lib.hid hv
  clear hv
  go_enter Try.func38, Try.ntmps38
  go_wp2_with fail
  have hbl : ∀ cs ds : Array Value, Below w.heap.size w ((w.alloc (.cells cs 63)).alloc (.cells ds 63)) := fun cs ds => ((Below.refl _ _).alloc (Nat.le_refl _) _).alloc (by rw [World.size_alloc]; omega) _
  refine (rop_any _ r _ ⟨A1, c1, B1, e1, rfl, HV.out.1, HV.out.2.1, HV.out.2.2.1.below (hbl _ _), HV.out.2.2.2.1.below (hbl _ _), HV.out.2.2.2.2⟩).mono ?_
  rintro e w1 ⟨v', rfl, ⟨A2, c2, B2, e2, rfl, hq⟩, hb⟩
  obtain ⟨hs, hx⟩ := bx_new (e := e2) hb rfl rfl zero_no (rfC_no r A1 B1 c1 e1) hq
  obtain ⟨z, hz, -, hzc⟩ := hx.res
  obtain ⟨y0, y1, y2, y3⟩ := hx.cell
  have HS := Lib.hid hs
  have HX := Lib.hid hx
  have HZ := Lib.hid hz
  have HZC := Lib.hid hzc
  clear hbl hs hx hb hq hz hzc
  by_cases x0 : r.pre.1 = 0
  · have EX := Lib.hid (show r.readL a n = (r.now.drop a).take n from if_pos x0)
    have hwf := HX.out.wf
    have hln := HX.out.len
    have hn2 : a + n ≤ r.pre.2.now.length := by rw [HP.out]; exact hn
    have q1 : IntKind.i64.wrap ((a : Int) + n) = ((a + n : Nat) : Int) := by simp [IntKind.wrap, IntKind.signed, IntKind.bits]; omega
    have q2 : (a : Int) ≤ ((a + n : Nat) : Int) := by omega
    have q3 : ((a + n : Nat) : Int) ≤ c2 := by omega
    have q4 : a ≤ a + n := by omega
    have q5 : a + n ≤ c2 := by omega
    have x0' := x0
    have X0 := Lib.hid x0'
    rw [x0]
    clear x0 x0' k1 k2 k3 k4 k5
    go_wp2_with (
      first
        | (refine wpList_store_row rfl 63 (.tmp 3) (.tmp 36) rfl w.heap.size (rfC r.pre.2 A2 B2 c2 e2) rfl rfl 63 _ HS.out rf_size rfl (rfC_one _ _ _ _ _) ?_)
        | (refine wpList_load_row rfl 63 (.tmp 3) rfl w.heap.size rfl 63 _ (0, 0) _ HX.out.box Try.underlying63 rfl rf_size ?_)
        | (refine wpList_store_row rfl 63 (.tmp 0) (.tmp 0) rfl (w.heap.size + 1) (rfC r.pre.2 A2 B2 c2 e2) rfl rfl 63 _ HZC.out rf_size (HZ.out.trans rfl) (rfC_one _ _ _ _ _) ?_))
    generalize w1.setRow w.heap.size (rfC r.pre.2 A2 B2 c2 e2) = Y at *
    obtain ⟨g0, hg0⟩ : ∃ g0, g0 = w.heap.size := ⟨_, rfl⟩
    rw [← hg0] at HX HZC y1 ⊢
    clear HS y0 y2 y3 hg0
    have hcut := HX.out.rd.1.cut a n c2 hn2 hln.1
    have hcl : ((r.pre.2.now.drop a).take n).length = n := by rw [List.length_take, List.length_drop]; omega
    obtain ⟨L, hL⟩ : ∃ L, L = (r.pre.2.now.drop a).take n := ⟨_, rfl⟩
    rw [← hL] at hcut hcl
    have HLL := Lib.hid hL
    have HCUT := Lib.hid hcut
    have HCL := Lib.hid hcl
    clear hcut hcl hL
    obtain ⟨y0, -, y2, y3, y4, y5, y6, y7⟩ := HX.out.cells
    have q6 : ((a + n : Nat) : Int) = (a : Int) + n := by omega
    rw [q6] at q1 q2 q3
    have q7 : ((a : Int) + n).toNat = a + n := by omega
    have q8 : (0 : Int) ≤ (a : Int) + n := by omega
    obtain ⟨y0, -, y2, y3, y4, y5, y6, y7⟩ := HX.out.cells
    have HYD := Lib.hid (HX.out.bel (below_drewN' (Below.refl Y.heap.size Y) 1))
    clear q6 q4
    have hrd := HCUT.out
    obtain ⟨D, hD⟩ : ∃ D, (if c2 = a then A2 else Option.map (fun x => x.add a) A2) = D := ⟨_, rfl⟩
    rw [hD] at hrd
    have HRD := Lib.hid hrd
    clear hrd HCUT
    go_region_held3 (fun W => W.cell? ⟨g0, 0, none⟩ = some (.int .i64 r.pre.2.most) ∧ W.cell? ⟨g0, 1, none⟩ = some (.slice A2 r.pre.2.now.length c2) ∧ W.cell? ⟨g0, 2, none⟩ = some (.slice B2 r.pre.2.old.length e2) ∧ W.cell? ⟨g0, 3, none⟩ = some (.int .i64 r.pre.2.floor) ∧
        W.cell? ⟨g0, 4, none⟩ = some (.bool r.pre.2.down) ∧ W.cell? ⟨g0, 5, none⟩ = some (.int .i64 r.pre.2.armed) ∧ W.cell? ⟨g0, 6, none⟩ = some (.int .i64 r.pre.2.fails) ∧ W.cell? ⟨g0, 7, none⟩ = some (.int .i64 r.pre.2.err))
      (first
        | with_reducible exact ⟨y0, y1, y2, y3, y4, y5, y6, y7⟩
        | with_reducible exact HYD.out.cells
        | with_reducible exact X3.out.cells
        | go_keep)
      (first
        | (go_at_call 65; (refine (copied_any _ _ _ L _ HCL.out.symm (by exact HRD.out) (by rw [HCL.out]; omega)).mono ?_); rintro e w3 ⟨A3, c3, rfl, ho3, hb3⟩
           have X3 := Lib.hid (HX.out.bel ((below_drewN' (Below.refl _ _) 1).trans hb3))
           have HO3 := Lib.hid ho3
           obtain ⟨z3, hz3, hzn3, hzc3⟩ := X3.out.res
           have HZN3 := Lib.hid hzn3
           have HZ3 := Lib.hid hz3
           have HZC3 := Lib.hid hzc3
           obtain ⟨v0, v1, v2, v3, v4, v5, v6, v7, z0, z1, z2, z3', z4, z5, z6, z7, zf⟩ := row8 hzc3 hz3
           have zf0 := zf 0
           have zf1 := zf 1
           have zf2 := zf 2
           have zf3 := zf 3
           have zf4 := zf 4
           have zf5 := zf 5
           have zf6 := zf 6
           have zf7 := zf 7
           clear ho3 hb3 zf hz3 hzc3 hzn3))
    all_goals
      skip
      obtain ⟨h8, hg8⟩ := set8 HZC3.out HZ3.out (.int .i64 r.pre.2.most) (.slice A2 r.pre.2.now.length c2) (.slice B2 r.pre.2.old.length e2) (.int .i64 r.pre.2.floor) (.bool r.pre.2.down) (.int .i64 r.pre.2.armed) (.int .i64 r.pre.2.fails) (.int .i64 r.pre.2.err)
      have hfin := X3.out.fin8 HZC3.out HZN3.out hg8
      have hro := HO3.out.form
      obtain ⟨A3', c3', e3, -, -, hro⟩ := hro
      injection e3 with e3a e3b e3c
      subst e3a; subst e3c
      have hrz := hro.grownRow HZC3.out HZN3.out hg8
      generalize ((((((((w3.setCell ⟨g0 + 1, 0, none⟩ (.int .i64 r.pre.2.most)).setCell ⟨g0 + 1, 1, none⟩ (.slice A2 r.pre.2.now.length c2)).setCell ⟨g0 + 1, 2, none⟩ (.slice B2 r.pre.2.old.length e2)).setCell ⟨g0 + 1, 3, none⟩ (.int .i64 r.pre.2.floor)).setCell ⟨g0 + 1, 4, none⟩ (.bool r.pre.2.down)).setCell ⟨g0 + 1, 5, none⟩ (.int .i64 r.pre.2.armed)).setCell ⟨g0 + 1, 6, none⟩ (.int .i64 r.pre.2.fails)).setCell ⟨g0 + 1, 7, none⟩ (.int .i64 r.pre.2.err)) = Z8 at *
      have H8 : Hid (Z8.heap[g0 + 1]? = some (.cells (rfC r.pre.2 A2 B2 c2 e2) 63 (0, 0))) := h8
      have HF := Lib.hid hfin
      have HRZ := Lib.hid hrz
      clear h8 hfin hrz hg8 hro
      go_wp2_with fail
      refine bodyPost_ret (results_row_tmp2 rfl _ _ (g0 + 1) (rfC r.pre.2 A2 B2 c2 e2) rfl H8.out rfl (.slice A3 L.length c3) (.int .i64 0) rfl rfl) rfl ?_
      rw [EX.out, X0.out]
      refine ⟨.agg (rfC r.pre.2 A2 B2 c2 e2), A3, ⟨c3, by rw [← HP.out, ← HLL.out]⟩, HF.out.1, by rw [← HP.out, ← HLL.out]; exact HRZ.out, HF.out.2⟩
  · have EX := Lib.hid (show r.readL a n = [] from if_neg x0)
    have xb : (r.pre.1 != 0) = true := by rw [bne_iff_ne]; exact x0
    clear x0 y0 y1 y2 y3
    go_wp2_with (
      first
        | (refine wpList_store_row rfl 63 (.tmp 3) (.tmp 36) rfl w.heap.size (rfC r.pre.2 A2 B2 c2 e2) rfl rfl 63 _ HS.out rf_size rfl (rfC_one _ _ _ _ _) ?_)
        | (refine wpList_load_row rfl 63 (.tmp 3) rfl w.heap.size rfl 63 _ (0, 0) _ HX.out.box Try.underlying63 rfl rf_size ?_)
        | (refine wpList_store_row rfl 63 (.tmp 6) (.tmp 40) rfl (w.heap.size + 1) (rfC r.pre.2 A2 B2 c2 e2) rfl rfl 63 _ HZC.out rf_size (HZ.out.trans rfl) (rfC_one _ _ _ _ _) ?_))
    refine bodyPost_ret (results_row_tmp2 rfl _ _ (w.heap.size + 1) (rfC r.pre.2 A2 B2 c2 e2) rfl (setRow_heap _ _ _ _ _ _ HZC.out) rfl _ _ rfl rfl) rfl ?_
    rw [EX.out]
    exact ⟨_, none, 0, rfl, HX.out.fin.1, Rd.nil, HX.out.fin.2⟩
end Go.Proofs.Ytkmjbfednmidbaa
