/-
  THE WALKS OF quillpressref07's Append, Sync, Truncate, ReadAt. Conditions: the document's disk is a value whose lists read.
-/
import Derived.Test.YtkmjbfednmidbaaDiskP2
import Derived.Test.YtkmjbfednmidbaaLent
import Derived.Laws.ResultCell
namespace Go.Proofs.Ytkmjbfednmidbaa
open Go.RowKit
set_option linter.unusedSimpArgs false
set_option linter.unusedVariables false

theorem below_setRow {B g : Nat} {w0 w : World} (h : Below B w0 w) (hg : B ≤ g) (C : Array Value) : Below B w0 (w.setRow g C) :=
  ⟨h.os, h.tape, h.output, by simpa using h.size, fun k hk => (setRow_other w g k C (by omega)).trans (h.block k hk)⟩
theorem rf_size : (Try.prog.info? 63).map (·.size) = some 8 := by kernel_rfl
/-- A value and a number handed back, the value out of a block. -/
theorem results_row_tmp {fn : Func} {p u : Tmp} (h : fn.results = #[.cell p 63, .tmp u]) (tmps : Array Value) (w : World) (g : Nat) (cs : Array Value)
    (hp : tmps.getD p undef = .pointer (some ⟨g, 0, none⟩)) (hg : w.heap[g]? = some (.cells cs 63 (0, 0))) (hi : cs.size = 8) (x : Value) (hu : tmps.getD u undef = x) :
    (results fn tmps).run Try.prog w = .ok (.tuple #[.agg cs, x]) w := by
  rw [results_cell_tmp h, hp, hu]
  simp [asAddr, run_loadVar_row w g 63 63 cs (0, 0) _ hg Try.underlying63 rfl (by rw [hi]; exact rf_size)]
def rfC (r : RfS) (A B : Option Addr) (c e : Nat) : Array Value := #[.int .i64 r.most, .slice A r.now.length c, .slice B r.old.length e, .int .i64 r.floor, .bool r.down, .int .i64 r.armed, .int .i64 r.fails, .int .i64 r.err]
theorem rfC_one (r : RfS) (A B : Option Addr) (c e : Nat) : (rfC r A B c e).all (·.oneCell') = true := by simp [rfC, Value.oneCell']
theorem two_rows (w : World) (cs ds : Array Value) (t u : TypeId) : ((w.alloc (.cells cs t)).alloc (.cells ds u)).heap[w.heap.size]? = some (.cells cs t (0, 0)) ∧ ((w.alloc (.cells cs t)).alloc (.cells ds u)).heap[w.heap.size + 1]? = some (.cells ds u (0, 0)) :=
  ⟨((Below.refl _ _).alloc (Nat.le_refl _) (.cells ds u)).block w.heap.size (by simp) |>.trans (heap_alloc_new w _), heap_alloc2_new w _ _⟩
/-- What an operation leaves to be gone on with: the box at g0 holds the disk, the block behind it is for the result. -/
structure Bx (w Y : World) (g0 : Nat) (q : RfS) (A B : Option Addr) (c e : Nat) : Prop where
  box : Y.heap[g0]? = some (.cells (rfC q A B c e) 63 (0, 0))
  res : ∃ z : Array Value, z.size = 8 ∧ (∀ (i : Nat) (x : Int), z[i]? ≠ some (Value.int .u8 x)) ∧ Y.heap[g0 + 1]? = some (.cells z 63 (0, 0))
  below : Below w.heap.size w Y
  g : w.heap.size = g0
  rd : Rd Y A q.now ∧ Rd Y B q.old
  len : q.now.length ≤ c ∧ c ≤ 9223372036854775807
  wf : q.most ≤ 4194304 ∧ q.now.length ≤ q.most ∧ q.old.length ≤ q.most ∧ q.floor ≤ q.most ∧ q.armed ≤ 2305843009213693952 ∧ q.fails ≤ 2305843009213693952
theorem Rd.setRow' {w : World} {A : Option Addr} {l : List Nat} (h : Rd w A l) {g : Nat} {C cs : Array Value} {t : TypeId} (hg : w.heap[g]? = some (.cells cs t (0, 0))) (hc : ∀ (i : Nat) (x : Int), cs[i]? ≠ some (Value.int .u8 x)) : Rd (w.setRow g C) A l := by
  refine ⟨h.1, fun hn => ?_⟩
  obtain ⟨b, o, rfl, hb, hcell⟩ := h.2 hn
  have hne : b ≠ g := by
    rintro rfl
    have h0 := hcell 0 (List.length_pos_iff.2 hn)
    rw [Nat.add_zero, cell_of_row _ _ _ _ _ _ hg] at h0
    exact hc _ _ h0
  refine ⟨b, o, rfl, by simpa using hb, fun i hi => ?_⟩
  rw [← hcell i hi]
  exact World.cell?_of_block (setRow_other w g b C hne)
theorem rfC_no (r : RfS) (A B : Option Addr) (c e : Nat) (i : Nat) (x : Int) : (rfC r A B c e)[i]? ≠ some (Value.int .u8 x) := by
  unfold rfC
  match i with
  | 0 | 1 | 2 | 3 | 4 | 5 | 6 | 7 => simp
  | _ + 8 => simp
theorem bx_new {w w1 : World} {cs ds : Array Value} {q : RfS} {A B : Option Addr} {c e : Nat} (hb : Below ((w.alloc (.cells cs 63)).alloc (.cells ds 63)).heap.size ((w.alloc (.cells cs 63)).alloc (.cells ds 63)) w1)
    (hcs : cs.size = 8) (hds : ds.size = 8) (hdn : ∀ (i : Nat) (x : Int), ds[i]? ≠ some (Value.int .u8 x)) (hcn : ∀ (i : Nat) (x : Int), cs[i]? ≠ some (Value.int .u8 x))
    (hq : q.now.length ≤ c ∧ c ≤ 9223372036854775807 ∧ Rd w1 A q.now ∧ Rd w1 B q.old ∧ q.most ≤ 4194304 ∧ q.now.length ≤ q.most ∧ q.old.length ≤ q.most ∧ q.floor ≤ q.most ∧ q.armed ≤ 2305843009213693952 ∧ q.fails ≤ 2305843009213693952) :
    w1.heap[w.heap.size]? = some (.cells cs 63 (0, 0)) ∧ Bx w (w1.setRow w.heap.size (rfC q A B c e)) w.heap.size q A B c e := by
  obtain ⟨h1, h2⟩ := two_rows w cs ds 63 63
  have k1 := (hb.block w.heap.size (by simp; omega)).trans h1
  have k2 := (hb.block (w.heap.size + 1) (by simp)).trans h2
  have hbl : Below w.heap.size w w1 := (((Below.refl _ _).alloc (Nat.le_refl _) _).alloc (by rw [World.size_alloc]; omega) _).trans (hb.mono (by simp; omega))
  exact ⟨k1, setRow_heap _ _ _ _ _ _ k1, ⟨ds, hds, hdn, (setRow_other w1 _ _ _ (by omega)).trans k2⟩, below_setRow hbl (Nat.le_refl _) _, rfl, ⟨hq.2.2.1.setRow' k1 hcn, hq.2.2.2.1.setRow' k1 hcn⟩, ⟨hq.1, hq.2.1⟩, hq.2.2.2.2⟩
theorem Bx.cell {w Y : World} {g0 : Nat} {q : RfS} {A B : Option Addr} {c e : Nat} (h : Bx w Y g0 q A B c e) : Y.cell? ⟨g0, 0, none⟩ = some (.int .i64 q.most) ∧ Y.cell? ⟨g0, 1, none⟩ = some (.slice A q.now.length c) ∧ Y.cell? ⟨g0, 2, none⟩ = some (.slice B q.old.length e) ∧ Y.cell? ⟨g0, 3, none⟩ = some (.int .i64 q.floor) := by
  refine ⟨?_, ?_, ?_, ?_⟩
  all_goals
    rw [cell_of_row _ _ _ _ _ _ h.box]
    rfl
theorem Bx.fz {w Y : World} {g0 : Nat} {q : RfS} {A B : Option Addr} {c e : Nat} (h : Bx w Y g0 q A B c e) (i : Nat) : Y.frozen? ⟨g0, i, none⟩ = false := by simp [World.frozen?, h.box]
/-- Its end: the disk into the result's block. -/
theorem Bx.fin {w Y : World} {g0 : Nat} {q : RfS} {A B : Option Addr} {c e : Nat} (h : Bx w Y g0 q A B c e) : RfV (Y.setRow (g0 + 1) (rfC q A B c e)) (.agg (rfC q A B c e)) q ∧ Below w.heap.size w (Y.setRow (g0 + 1) (rfC q A B c e)) := by
  obtain ⟨h1, ⟨z, h2, h3', h3⟩, h4, h5, h6, h7, h8⟩ := h
  have hb := below_setRow h4 (show w.heap.size ≤ g0 + 1 by omega) (rfC q A B c e)
  exact ⟨⟨A, c, B, e, rfl, h7.1, h7.2, h6.1.setRow' h3 h3', h6.2.setRow' h3 h3', h8⟩, hb⟩
theorem zero_no (i : Nat) (x : Int) : (#[Value.int IntKind.i64 0, Value.slice none 0 0, Value.slice none 0 0, Value.int IntKind.i64 0, Value.bool false, Value.int IntKind.i64 0, Value.int IntKind.i64 0, Value.int IntKind.i64 0])[i]? ≠ some (Value.int .u8 x) := by
  match i with
  | 0 | 1 | 2 | 3 | 4 | 5 | 6 | 7 => simp
  | _ + 8 => simp
theorem setCell_heap {w : World} {g i : Nat} {cs : Array Value} {t : TypeId} {fr : Nat × Nat} (h : w.heap[g]? = some (.cells cs t fr)) (u : Value) : (w.setCell ⟨g, i, none⟩ u).heap[g]? = some (.cells (cs.setIfInBounds i u) t fr) := by
  have hlt : g < w.heap.size := lt_of_block h
  have hv : w.heap[g] = .cells cs t fr := (Array.getElem?_eq_some_iff.1 h).2
  unfold World.setCell
  rw [Array.getElem?_eq_getElem (by simpa using hlt), Array.getElem_modify]
  simp [hv]
section
variable {w Y Y' : World} {g0 : Nat} {q q' : RfS} {A B : Option Addr} {c e : Nat}
theorem Bx.bel (h : Bx w Y g0 q A B c e) (hb : Below Y.heap.size Y Y') : Bx w Y' g0 q A B c e := by
  obtain ⟨h1, ⟨z, h2, h3', h3⟩, h4, h5, h6, h7, h8⟩ := h
  exact ⟨(hb.block g0 (lt_of_block h1)).trans h1, ⟨z, h2, h3', (hb.block (g0 + 1) (lt_of_block h3)).trans h3⟩, h4.trans (hb.mono h4.size), h5, ⟨h6.1.below hb, h6.2.below hb⟩, h7, h8⟩
/-- A field written. -/
theorem Bx.set (h : Bx w Y g0 q A B c e) (i : Nat) (u : Value) (A' B' : Option Addr) (c' e' : Nat) (hc : (rfC q A B c e).setIfInBounds i u = rfC q' A' B' c' e') (hr : Rd Y A' q'.now ∧ Rd Y B' q'.old) (hl : q'.now.length ≤ c' ∧ c' ≤ 9223372036854775807)
    (hw : q'.most ≤ 4194304 ∧ q'.now.length ≤ q'.most ∧ q'.old.length ≤ q'.most ∧ q'.floor ≤ q'.most ∧ q'.armed ≤ 2305843009213693952 ∧ q'.fails ≤ 2305843009213693952) : Bx w (Y.setCell ⟨g0, i, none⟩ u) g0 q' A' B' c' e' := by
  obtain ⟨h1, ⟨z, h2, h3', h3⟩, h4, h5, h6, h7, h8⟩ := h
  have hne : ∀ k, k ≠ g0 → (Y.setCell ⟨g0, i, none⟩ u).heap[k]? = Y.heap[k]? := fun k hk => Below.heap_setCell Y ⟨g0, i, none⟩ u k (by simpa using hk)
  have hrd : ∀ {D : Option Addr} {l : List Nat}, Rd Y D l → Rd (Y.setCell ⟨g0, i, none⟩ u) D l := by
    intro D l hD
    refine ⟨hD.1, fun hn => ?_⟩
    obtain ⟨b, o, rfl, hb, hcell⟩ := hD.2 hn
    have hbg : b ≠ g0 := by
      rintro rfl
      have h0 := hcell 0 (List.length_pos_iff.2 hn)
      rw [Nat.add_zero, cell_of_row _ _ _ _ _ _ h1] at h0
      exact rfC_no _ _ _ _ _ _ _ h0
    exact ⟨b, o, rfl, by simpa [World.setCell] using hb, fun j hj => (World.cell?_of_block (hne b hbg)).trans (hcell j hj)⟩
  refine ⟨by rw [← hc]; exact setCell_heap h1 u, ⟨z, h2, h3', (hne (g0 + 1) (by omega)).trans h3⟩, h4.setCell (p := ⟨g0, i, none⟩) (by show w.heap.size ≤ g0; omega) u, h5, ⟨hrd hr.1, hrd hr.2⟩, hl, hw⟩
theorem Bx.setNow (h : Bx w Y g0 q A B c e) {A' : Option Addr} {c' : Nat} {L : List Nat} (hr : Rd Y A' L) (hl : L.length ≤ c' ∧ c' ≤ 9223372036854775807) (hm : L.length ≤ q.most) : Bx w (Y.setCell ⟨g0, 1, none⟩ (.slice A' L.length c')) g0 { q with now := L } A' B c' e :=
  h.set 1 _ A' B c' e rfl ⟨hr, h.rd.2⟩ hl ⟨h.wf.1, hm, h.wf.2.2⟩
theorem Bx.setOld (h : Bx w Y g0 q A B c e) {A' : Option Addr} {c' : Nat} {L : List Nat} (hr : Rd Y A' L) (hm : L.length ≤ q.most) : Bx w (Y.setCell ⟨g0, 2, none⟩ (.slice A' L.length c')) g0 { q with old := L } A A' c c' :=
  h.set 2 _ A A' c c' rfl ⟨h.rd.1, hr⟩ h.len ⟨h.wf.1, h.wf.2.1, hm, h.wf.2.2.2⟩
theorem Bx.setFloor (h : Bx w Y g0 q A B c e) {n : Nat} (hm : n ≤ q.most) : Bx w (Y.setCell ⟨g0, 3, none⟩ (.int .i64 (n : Nat))) g0 { q with floor := n } A B c e :=
  h.set 3 _ A B c e rfl h.rd h.len ⟨h.wf.1, h.wf.2.1, h.wf.2.2.1, hm, h.wf.2.2.2.2⟩
end
set_option maxRecDepth 100000 in
set_option maxHeartbeats 4000000 in
theorem rappend_any (v : Value) (r : RfS) (A : Option Addr) (n c : Nat) (m : List Nat) (w : World) (h : RfV w v r) (hn : n = m.length) (hr : Rd w A m) (hm : m.length ≤ 5000000) :
    Calls Try.prog 36 #[v, .slice A n c] w fun e w' => ∃ v', e = .returned (.tuple #[v', .int .i64 (r.append m).1]) ∧ RfV w' v' (r.append m).2 ∧ Below w.heap.size w w' := by
  subst hn
  obtain ⟨A1, c1, B1, e1, rfl, hv⟩ := h
  have HV := Lib.hid hv
  have HR := Lib.hid hr
  clear hv hr
  go_enter Try.func36, Try.ntmps36
  go_wp2_with fail
  have hbl : ∀ cs ds : Array Value, Below w.heap.size w ((w.alloc (.cells cs 63)).alloc (.cells ds 63)) := fun cs ds => ((Below.refl _ _).alloc (Nat.le_refl _) _).alloc (by rw [World.size_alloc]; omega) _
  refine (rop_any _ r _ ⟨A1, c1, B1, e1, rfl, HV.out.1, HV.out.2.1, HV.out.2.2.1.below (hbl _ _), HV.out.2.2.2.1.below (hbl _ _), HV.out.2.2.2.2⟩).mono ?_
  rintro e w1 ⟨v', rfl, ⟨A2, c2, B2, e2, rfl, hq⟩, hb⟩
  obtain ⟨hs, hx⟩ := bx_new (e := e2) hb rfl rfl zero_no (rfC_no r A1 B1 c1 e1) hq
  obtain ⟨z, hz, -, hzc⟩ := hx.res
  obtain ⟨y0, y1, y2, y3⟩ := hx.cell
  have HS := Lib.hid hs
  have HX := Lib.hid hx
  have HZ := Lib.hid hz
  have HZC := Lib.hid hzc
  clear hbl hs hx hb hq hz hzc
  by_cases x0 : r.pre.1 = 0
  · have ex : r.append m = (if r.pre.2.most < r.pre.2.now.length + m.length then (5, r.pre.2) else (0, { r.pre.2 with now := r.pre.2.now ++ m })) := by
      unfold RfS.append RfS.op
      rw [if_pos x0]
    rw [x0]
    have EX := Lib.hid ex
    clear ex x0
    have k1 : IntKind.i64.wrap ((r.pre.2.now.length : Int) + (m.length : Int)) = (r.pre.2.now.length : Int) + (m.length : Int) := by
      have := HX.out.wf
      simp [IntKind.wrap, IntKind.signed, IntKind.bits]; omega
    by_cases e0 : r.pre.2.most < r.pre.2.now.length + m.length
    · have E0 := Lib.hid e0
      have e0' : (r.pre.2.most : Int) < (r.pre.2.now.length : Int) + (m.length : Int) := by omega
      clear e0
      go_wp2_with (
        first
          | (refine wpList_store_row rfl 63 (.tmp 2) (.tmp 10) rfl w.heap.size (rfC r.pre.2 A2 B2 c2 e2) rfl rfl 63 _ HS.out rf_size rfl (rfC_one _ _ _ _ _) ?_)
          | (refine wpList_load_row rfl 63 (.tmp 2) rfl w.heap.size rfl 63 _ (0, 0) _ HX.out.box Try.underlying63 rfl rf_size ?_)
          | (refine wpList_store_row rfl 63 (.tmp 4) (.tmp 25) rfl (w.heap.size + 1) (rfC r.pre.2 A2 B2 c2 e2) rfl rfl 63 _ HZC.out rf_size (HZ.out.trans rfl) (rfC_one _ _ _ _ _) ?_))
      refine bodyPost_ret (results_row_tmp rfl _ _ (w.heap.size + 1) (rfC r.pre.2 A2 B2 c2 e2) rfl (setRow_heap _ _ _ _ _ _ HZC.out) rfl _ rfl) rfl ?_
      rw [EX.out, if_pos E0.out]
      exact ⟨_, rfl, HX.out.fin⟩
    · have E0 := Lib.hid e0
      have e0' : ¬ (r.pre.2.most : Int) < (r.pre.2.now.length : Int) + (m.length : Int) := by omega
      clear e0
      go_wp2_with (
        first
          | (refine wpList_store_row rfl 63 (.tmp 2) (.tmp 10) rfl w.heap.size (rfC r.pre.2 A2 B2 c2 e2) rfl rfl 63 _ HS.out rf_size rfl (rfC_one _ _ _ _ _) ?_)
          | (refine wpList_load_row rfl 63 (.tmp 2) rfl w.heap.size rfl 63 _ (0, 0) _ HX.out.box Try.underlying63 rfl rf_size ?_)
          | (refine wpList_store_row rfl 63 (.tmp 4) (.tmp 32) rfl (w.heap.size + 1) (rfC r.pre.2 A2 B2 c2 e2) rfl rfl 63 _ HZC.out rf_size (HZ.out.trans rfl) (rfC_one _ _ _ _ _) ?_))
      generalize w1.setRow w.heap.size (rfC r.pre.2 A2 B2 c2 e2) = Y at *
      obtain ⟨g0, hg0⟩ : ∃ g0, g0 = w.heap.size := ⟨_, rfl⟩
      rw [← hg0] at HX ⊢
      clear HS HZC HZ y0 y1 y2 y3 hg0
      have hwf := HX.out.wf
      refine (copied_any A2 _ c2 r.pre.2.now Y rfl HX.out.rd.1 (by omega)).mono ?_
      rintro e w3 ⟨A3, c3, rfl, ho3, hb3⟩
      have O3 := Lib.hid ho3
      have B3 := Lib.hid hb3
      have X3 := Lib.hid (HX.out.bel hb3)
      have R3 := Lib.hid ((HR.out.below HX.out.below).below hb3)
      clear ho3 hb3
      have yf := X3.out.fz 1
      have yc := X3.out.cell.2.1
      have YF := Lib.hid yf
      have YC := Lib.hid yc
      clear yf yc
      have hY := HX.out
      have HXY := Lib.hid hY
      clear hY
      go_wp2_with (first
        | (at_builtin; refine append_bytes (.tmp 28) (.tmp 29) rfl rfl rfl O3.out A m.length c m rfl rfl R3.out (by omega) B3.out.size ?_; intro v4 w4 ho4 hg4 ha4
           have hll : (r.pre.2.now ++ m).length = r.pre.2.now.length + m.length := List.length_append
           generalize r.pre.2.now ++ m = L at *
           have HLL := Lib.hid hll
           clear hll
           obtain ⟨A4, c4, rfl, hc4, -, hr4⟩ := ho4.form
           have B4 := Lib.hid (below_of_append B3.out O3.out hg4 B3.out.size (Nat.le_refl _))
           have X4 := Lib.hid (HXY.out.bel B4.out)
           obtain ⟨b4, ⟨A4', c4', e4, q4, q4', -, -⟩, -⟩ := ho4.sl
           injection e4 with e4a e4b e4c
           subst e4c
           have R4 := Lib.hid hr4
           have C4 := Lib.hid (show L.length ≤ c4 ∧ c4 ≤ 9223372036854775807 from ⟨q4, q4'⟩)
           clear ho4 hg4 ha4 hr4 hc4 e4a e4b q4 q4'
           have yf := X4.out.fz 1
           have yc := X4.out.cell.2.1)
        | (have hx5 := X4.out.setNow R4.out C4.out (by rw [HLL.out]; omega)
           have X5 := Lib.hid hx5
           obtain ⟨z, hz, -, hzc⟩ := hx5.res
           have HZ := Lib.hid hz
           have HZC := Lib.hid hzc
           clear hz hzc hx5
           refine wpList_load_row rfl 63 (.tmp 2) rfl g0 rfl 63 _ (0, 0) _ X5.out.box Try.underlying63 rfl rf_size ?_)
        | (refine wpList_store_row rfl 63 (.tmp 4) (.tmp 32) rfl (g0 + 1) (rfC { r.pre.2 with now := L } A4 B2 c4 e2) rfl rfl 63 _ HZC.out rf_size (HZ.out.trans rfl) (rfC_one _ _ _ _ _) ?_))
      refine bodyPost_ret (results_row_tmp rfl _ _ (g0 + 1) (rfC { r.pre.2 with now := L } A4 B2 c4 e2) rfl (setRow_heap _ _ _ _ _ _ HZC.out) rfl _ rfl) rfl ?_
      rw [EX.out, if_neg E0.out]
      exact ⟨_, rfl, X5.out.fin⟩
  · have ex : r.append m = r.pre := by
      unfold RfS.append RfS.op
      rw [if_neg x0]
    have EX := Lib.hid ex
    have xb : (r.pre.1 != 0) = true := by rw [bne_iff_ne]; exact x0
    clear ex x0 y0 y1 y2 y3
    go_wp2_with (
      first
        | (refine wpList_store_row rfl 63 (.tmp 2) (.tmp 10) rfl w.heap.size (rfC r.pre.2 A2 B2 c2 e2) rfl rfl 63 _ HS.out rf_size rfl (rfC_one _ _ _ _ _) ?_)
        | (refine wpList_load_row rfl 63 (.tmp 2) rfl w.heap.size rfl 63 _ (0, 0) _ HX.out.box Try.underlying63 rfl rf_size ?_)
        | (refine wpList_store_row rfl 63 (.tmp 4) (.tmp 14) rfl (w.heap.size + 1) (rfC r.pre.2 A2 B2 c2 e2) rfl rfl 63 _ HZC.out rf_size (HZ.out.trans rfl) (rfC_one _ _ _ _ _) ?_))
    refine bodyPost_ret (results_row_tmp rfl _ _ (w.heap.size + 1) (rfC r.pre.2 A2 B2 c2 e2) rfl (setRow_heap _ _ _ _ _ _ HZC.out) rfl _ rfl) rfl ?_
    rw [EX.out]
    exact ⟨_, rfl, HX.out.fin⟩
set_option maxRecDepth 100000 in
set_option maxHeartbeats 4000000 in
theorem rsync_any (v : Value) (r : RfS) (w : World) (h : RfV w v r) :
    Calls Try.prog 37 #[v] w fun e w' => ∃ v', e = .returned (.tuple #[v', .int .i64 r.sync.1]) ∧ RfV w' v' r.sync.2 ∧ Below w.heap.size w w' := by
  obtain ⟨A1, c1, B1, e1, rfl, hv⟩ := h
  have HV := Lib.hid hv
  clear hv
  go_enter Try.func37, Try.ntmps37
  go_wp2_with fail
  have hbl : ∀ cs ds : Array Value, Below w.heap.size w ((w.alloc (.cells cs 63)).alloc (.cells ds 63)) := fun cs ds => ((Below.refl _ _).alloc (Nat.le_refl _) _).alloc (by rw [World.size_alloc]; omega) _
  refine (rop_any _ r _ ⟨A1, c1, B1, e1, rfl, HV.out.1, HV.out.2.1, HV.out.2.2.1.below (hbl _ _), HV.out.2.2.2.1.below (hbl _ _), HV.out.2.2.2.2⟩).mono ?_
  rintro e w1 ⟨v', rfl, ⟨A2, c2, B2, e2, rfl, hq⟩, hb⟩
  obtain ⟨hs, hx⟩ := bx_new (e := e2) hb rfl rfl zero_no (rfC_no r A1 B1 c1 e1) hq
  obtain ⟨z, hz, -, hzc⟩ := hx.res
  obtain ⟨y0, y1, y2, y3⟩ := hx.cell
  have HS := Lib.hid hs
  have HX := Lib.hid hx
  have HZ := Lib.hid hz
  have HZC := Lib.hid hzc
  clear hbl hs hx hb hq hz hzc
  by_cases x0 : r.pre.1 = 0
  · have EX := Lib.hid (show r.sync = (0, { r.pre.2 with old := r.pre.2.now, floor := r.pre.2.now.length }) from if_pos x0)
    rw [x0]
    clear x0
    go_wp2_with (
      first
        | (refine wpList_store_row rfl 63 (.tmp 1) (.tmp 8) rfl w.heap.size (rfC r.pre.2 A2 B2 c2 e2) rfl rfl 63 _ HS.out rf_size rfl (rfC_one _ _ _ _ _) ?_)
        | (refine wpList_load_row rfl 63 (.tmp 1) rfl w.heap.size rfl 63 _ (0, 0) _ HX.out.box Try.underlying63 rfl rf_size ?_)
        | (refine wpList_store_row rfl 63 (.tmp 0) (.tmp 0) rfl (w.heap.size + 1) (rfC r.pre.2 A2 B2 c2 e2) rfl rfl 63 _ HZC.out rf_size (HZ.out.trans rfl) (rfC_one _ _ _ _ _) ?_))
    generalize w1.setRow w.heap.size (rfC r.pre.2 A2 B2 c2 e2) = Y at *
    obtain ⟨g0, hg0⟩ : ∃ g0, g0 = w.heap.size := ⟨_, rfl⟩
    rw [← hg0] at HX ⊢
    clear HS HZC HZ y0 y1 y2 y3 hg0
    have hwf := HX.out.wf
    refine (copied_any A2 _ c2 r.pre.2.now Y rfl HX.out.rd.1 (by omega)).mono ?_
    rintro e w3 ⟨A3, c3, rfl, ho3, hb3⟩
    obtain ⟨A3', c3', e3, hc3, -, hr3⟩ := ho3.form
    injection e3 with e3a e3b e3c
    subst e3a; subst e3c
    have hx3 := HX.out.bel hb3
    have hx4 := hx3.setOld (c' := c3) hr3 (by omega)
    have hx5 := hx4.setFloor (n := r.pre.2.now.length) (by show r.pre.2.now.length ≤ r.pre.2.most; omega)
    have y1 := hx3.cell.2.1
    have y2 := hx3.cell.2.2.1
    have y3 := hx3.cell.2.2.2
    have f2 := hx3.fz 2
    have f3 := hx3.fz 3
    obtain ⟨z, hz, -, hzc⟩ := hx5.res
    have HZ := Lib.hid hz
    have HZC := Lib.hid hzc
    have X5 := Lib.hid hx5
    clear ho3 hr3 hb3 hx3 hx4 hx5 hz hzc hc3
    go_wp2_with (first
      | (refine wpList_load_row rfl 63 (.tmp 1) rfl g0 rfl 63 _ (0, 0) _ X5.out.box Try.underlying63 rfl rf_size ?_)
      | (refine wpList_store_row rfl 63 (.tmp 2) (.tmp 22) rfl (g0 + 1) (rfC { r.pre.2 with old := r.pre.2.now, floor := r.pre.2.now.length } A2 A3 c2 c3) rfl rfl 63 _ HZC.out rf_size (HZ.out.trans rfl) (rfC_one _ _ _ _ _) ?_))
    refine bodyPost_ret (results_row_tmp rfl _ _ (g0 + 1) (rfC { r.pre.2 with old := r.pre.2.now, floor := r.pre.2.now.length } A2 A3 c2 c3) rfl (setRow_heap _ _ _ _ _ _ HZC.out) rfl _ rfl) rfl ?_
    rw [EX.out]
    exact ⟨_, rfl, X5.out.fin⟩
  · skip
    have EX := Lib.hid (show r.sync = r.pre from if_neg x0)
    have xb : (r.pre.1 != 0) = true := by rw [bne_iff_ne]; exact x0
    clear x0 y0 y1 y2 y3
    go_wp2_with (
      first
        | (refine wpList_store_row rfl 63 (.tmp 1) (.tmp 8) rfl w.heap.size (rfC r.pre.2 A2 B2 c2 e2) rfl rfl 63 _ HS.out rf_size rfl (rfC_one _ _ _ _ _) ?_)
        | (refine wpList_load_row rfl 63 (.tmp 1) rfl w.heap.size rfl 63 _ (0, 0) _ HX.out.box Try.underlying63 rfl rf_size ?_)
        | (refine wpList_store_row rfl 63 (.tmp 2) (.tmp 12) rfl (w.heap.size + 1) (rfC r.pre.2 A2 B2 c2 e2) rfl rfl 63 _ HZC.out rf_size (HZ.out.trans rfl) (rfC_one _ _ _ _ _) ?_))
    refine bodyPost_ret (results_row_tmp rfl _ _ (w.heap.size + 1) (rfC r.pre.2 A2 B2 c2 e2) rfl (setRow_heap _ _ _ _ _ _ HZC.out) rfl _ rfl) rfl ?_
    rw [EX.out]
    exact ⟨_, rfl, HX.out.fin⟩
def rtruncB (r : RfS) (n : Int) : Bool := decide (n < 0) || decide ((r.now.length : Int) < n)
set_option maxRecDepth 100000 in
set_option maxHeartbeats 4000000 in
theorem rtrunc_any (v : Value) (r : RfS) (n : Nat) (w : World) (h : RfV w v r) (hn : n ≤ r.now.length) (hp : r.pre.2.now = r.now) :
    Calls Try.prog 39 #[v, .int .i64 n] w fun e w' => ∃ v', e = .returned (.tuple #[v', .int .i64 (r.trunc n).1]) ∧ RfV w' v' (r.trunc n).2 ∧ Below w.heap.size w w' := by
  have k1 : ¬ (n : Int) < 0 := by omega
  have k2 : ¬ (r.now.length : Int) < n := by omega
  have HP := Lib.hid hp
  clear hp
  obtain ⟨A1, c1, B1, e1, rfl, hv⟩ := h
  have HV := Lib.hid hv
  clear hv
  go_enter Try.func39, Try.ntmps39
  go_wp2_with fail
  have hbl : ∀ cs ds : Array Value, Below w.heap.size w ((w.alloc (.cells cs 63)).alloc (.cells ds 63)) := fun cs ds => ((Below.refl _ _).alloc (Nat.le_refl _) _).alloc (by rw [World.size_alloc]; omega) _
  refine (rop_any _ r _ ⟨A1, c1, B1, e1, rfl, HV.out.1, HV.out.2.1, HV.out.2.2.1.below (hbl _ _), HV.out.2.2.2.1.below (hbl _ _), HV.out.2.2.2.2⟩).mono ?_
  rintro e w1 ⟨v', rfl, ⟨A2, c2, B2, e2, rfl, hq⟩, hb⟩
  obtain ⟨hs, hx⟩ := bx_new (e := e2) hb rfl rfl zero_no (rfC_no r A1 B1 c1 e1) hq
  obtain ⟨z, hz, -, hzc⟩ := hx.res
  obtain ⟨y0, y1, y2, y3⟩ := hx.cell
  have HS := Lib.hid hs
  have HX := Lib.hid hx
  have HZ := Lib.hid hz
  have HZC := Lib.hid hzc
  clear hbl hs hx hb hq hz hzc
  by_cases x0 : r.pre.1 = 0
  · have EX := Lib.hid (show r.trunc n = (0, { r.pre.2 with now := r.pre.2.now.take n, floor := if n < r.pre.2.floor then n else r.pre.2.floor }) from if_pos x0)
    rw [x0]
    clear x0
    have hn2 : n ≤ r.pre.2.now.length := by rw [HP.out]; exact hn
    have hwf := HX.out.wf
    have hln := HX.out.len
    have q1 : (n : Int) ≤ c2 := by omega
    have q2 : n ≤ c2 := by omega
    clear k1 k2
    go_wp2_with (
      first
        | (refine wpList_store_row rfl 63 (.tmp 2) (.tmp 20) rfl w.heap.size (rfC r.pre.2 A2 B2 c2 e2) rfl rfl 63 _ HS.out rf_size rfl (rfC_one _ _ _ _ _) ?_)
        | (refine wpList_load_row rfl 63 (.tmp 2) rfl w.heap.size rfl 63 _ (0, 0) _ HX.out.box Try.underlying63 rfl rf_size ?_)
        | (refine wpList_store_row rfl 63 (.tmp 0) (.tmp 0) rfl (w.heap.size + 1) (rfC r.pre.2 A2 B2 c2 e2) rfl rfl 63 _ HZC.out rf_size (HZ.out.trans rfl) (rfC_one _ _ _ _ _) ?_))
    generalize w1.setRow w.heap.size (rfC r.pre.2 A2 B2 c2 e2) = Y at *
    obtain ⟨g0, hg0⟩ : ∃ g0, g0 = w.heap.size := ⟨_, rfl⟩
    rw [← hg0] at HX ⊢
    clear HS HZC HZ y0 y1 y2 y3 hg0
    have htk : (r.pre.2.now.take n).length = n := by rw [List.length_take]; omega
    refine (copied_any A2 n c2 (r.pre.2.now.take n) Y htk.symm (rd_takeL HX.out.rd.1 n) (by omega)).mono ?_
    rintro e w3 ⟨A3, c3, rfl, ho3, hb3⟩
    obtain ⟨A3', c3', e3, -, -, hr3⟩ := ho3.form
    injection e3 with e3a e3b e3c
    subst e3a; subst e3c
    obtain ⟨b4, ⟨A4', c4', e4, q4, q4', -, -⟩, -⟩ := ho3.sl
    injection e4 with e4a e4b e4c
    subst e4c
    have hx3 := HX.out.bel hb3
    have y1 := hx3.cell.2.1
    have y3 := hx3.cell.2.2.2
    have f1 := hx3.fz 1
    have f3 := hx3.fz 3
    have hx4 := hx3.setNow (c' := c3) hr3 ⟨q4, q4'⟩ (by omega)
    by_cases e0 : n < r.pre.2.floor
    · have e0' : (n : Int) < r.pre.2.floor := by omega
      have hx5 := hx4.setFloor (n := n) (by show n ≤ r.pre.2.most; omega)
      obtain ⟨z, hz, -, hzc⟩ := hx5.res
      rw [if_pos e0] at EX
      rw [htk] at hx5 hzc ⊢
      have HZ := Lib.hid hz
      have HZC := Lib.hid hzc
      have X5 := Lib.hid hx5
      clear ho3 hr3 hb3 hx3 hx4 hx5 hz hzc htk e0 q4 q4' e3b e4a e4b
      go_wp2_with (first
        | (refine wpList_load_row rfl 63 (.tmp 2) rfl g0 rfl 63 _ (0, 0) _ X5.out.box Try.underlying63 rfl rf_size ?_)
        | (refine wpList_store_row rfl 63 (.tmp 4) (.tmp 38) rfl (g0 + 1) (rfC { r.pre.2 with now := r.pre.2.now.take n, floor := n } A3 B2 c3 e2) rfl rfl 63 _ HZC.out rf_size (HZ.out.trans rfl) (rfC_one _ _ _ _ _) ?_))
      refine bodyPost_ret (results_row_tmp rfl _ _ (g0 + 1) (rfC { r.pre.2 with now := r.pre.2.now.take n, floor := n } A3 B2 c3 e2) rfl (setRow_heap _ _ _ _ _ _ HZC.out) rfl _ rfl) rfl ?_
      rw [EX.out]
      exact ⟨_, rfl, X5.out.fin⟩
    · have e0' : ¬ (n : Int) < r.pre.2.floor := by omega
      obtain ⟨z, hz, -, hzc⟩ := hx4.res
      rw [if_neg e0] at EX
      rw [htk] at hx4 hzc ⊢
      have HZ := Lib.hid hz
      have HZC := Lib.hid hzc
      have X5 := Lib.hid hx4
      clear ho3 hr3 hb3 hx3 hx4 hz hzc htk e0 q4 q4' e3b e4a e4b
      go_wp2_with (first
        | (refine wpList_load_row rfl 63 (.tmp 2) rfl g0 rfl 63 _ (0, 0) _ X5.out.box Try.underlying63 rfl rf_size ?_)
        | (refine wpList_store_row rfl 63 (.tmp 4) (.tmp 38) rfl (g0 + 1) (rfC { r.pre.2 with now := r.pre.2.now.take n } A3 B2 c3 e2) rfl rfl 63 _ HZC.out rf_size (HZ.out.trans rfl) (rfC_one _ _ _ _ _) ?_))
      refine bodyPost_ret (results_row_tmp rfl _ _ (g0 + 1) (rfC { r.pre.2 with now := r.pre.2.now.take n } A3 B2 c3 e2) rfl (setRow_heap _ _ _ _ _ _ HZC.out) rfl _ rfl) rfl ?_
      rw [EX.out]
      exact ⟨_, rfl, X5.out.fin⟩
  · skip
    have EX := Lib.hid (show r.trunc n = r.pre from if_neg x0)
    have xb : (r.pre.1 != 0) = true := by rw [bne_iff_ne]; exact x0
    clear x0 y0 y1 y2 y3
    go_wp2_with (
      first
        | (refine wpList_store_row rfl 63 (.tmp 2) (.tmp 20) rfl w.heap.size (rfC r.pre.2 A2 B2 c2 e2) rfl rfl 63 _ HS.out rf_size rfl (rfC_one _ _ _ _ _) ?_)
        | (refine wpList_load_row rfl 63 (.tmp 2) rfl w.heap.size rfl 63 _ (0, 0) _ HX.out.box Try.underlying63 rfl rf_size ?_)
        | (refine wpList_store_row rfl 63 (.tmp 4) (.tmp 24) rfl (w.heap.size + 1) (rfC r.pre.2 A2 B2 c2 e2) rfl rfl 63 _ HZC.out rf_size (HZ.out.trans rfl) (rfC_one _ _ _ _ _) ?_))
    refine bodyPost_ret (results_row_tmp rfl _ _ (w.heap.size + 1) (rfC r.pre.2 A2 B2 c2 e2) rfl (setRow_heap _ _ _ _ _ _ HZC.out) rfl _ rfl) rfl ?_
    rw [EX.out]
    exact ⟨_, rfl, HX.out.fin⟩
end Go.Proofs.Ytkmjbfednmidbaa
