/-
  THE WALK OF code.Get, at a place among at most 65536 bytes. Conditions: the bytes read so.
-/
import Derived.Test.YthmpagehmfillaaQ34
import Derived.Test.YthmpagehmfillaaQ41
import Derived.Test.YthmpagehmfillaaQ35
import Derived.Deep.RegionHeld3
import Derived.Deep.QuietTactic
import Derived.BigQuiet
import Derived.Deep.DeepCutAuto
import Derived.Deep.RegionWith
namespace Go.Proofs.Ythmpagehmfillaa
open Go.RowKit
set_option linter.unusedSimpArgs false
set_option linter.unusedVariables false
set_option maxRecDepth 100000
theorem in_heap {w : World} {g : Nat} {t : TypeId} {o : Nat} {d s n : Int} (h : w.rowIs g t 4 (inF o d s n)) : w.heap[g]? = some (.cells #[.int .u8 o, .int .i64 d, .int .i64 s, .int .i64 n] t (0, 0)) := by
  obtain ⟨cs, h1, h2, h3⟩ := h
  rw [h1]
  have : cs = #[.int .u8 o, .int .i64 d, .int .i64 s, .int .i64 n] := by
    apply Array.ext (by rw [h2]; rfl)
    intro i hi1 hi2
    have h4 := h3 i (by omega)
    have e : (#[Value.int .u8 o, .int .i64 d, .int .i64 s, .int .i64 n] : Array Value)[i]? = some (inF o d s n i) := by
      rw [h2] at hi1
      match i, hi1 with
      | 0, _ => rfl
      | 1, _ => rfl
      | 2, _ => rfl
      | 3, _ => rfl
    rw [← e, Array.getElem?_eq_getElem hi1, Array.getElem?_eq_getElem hi2] at h4
    exact Option.some.inj h4
  rw [this]
theorem in_size : (Try.prog.info? 56).map (·.size) = some 4 := by kernel_rfl
/-- Results: an instruction in a cell, two numbers. -/
theorem in_results {fn : Func} {p q r : Tmp} (h : fn.results = #[.cell p 56, .tmp q, .tmp r]) (tmps : Array Value) (w : World) (g : Nat) {o : Nat} {d s n : Int} (hp : tmps.getD p undef = .pointer (some ⟨g, 0, none⟩)) (hr : w.rowIs g 56 4 (inF o d s n)) :
    (results fn tmps).run Try.prog w = .ok (.tuple #[.agg #[.int .u8 o, .int .i64 d, .int .i64 s, .int .i64 n], tmps.getD q undef, tmps.getD r undef]) w := by
  have hp' : tmps[p]?.getD undef = .pointer (some ⟨g, 0, none⟩) := by simpa using hp
  simp [results, h, hp', asAddr, run_loadVar_row w g 56 56 _ _ _ (in_heap hr) Try.underlying56 rfl in_size]
def getV (r : InsS × Nat × Nat) : Value := .tuple #[.agg #[.int .u8 r.1.o, .int .i64 r.1.d, .int .i64 r.1.s, .int .i64 r.1.n], .int .i64 r.2.1, .int .i64 r.2.2]
/-- What Get comes to. -/
def GetP (b : List Nat) (p : Nat) (w : World) (e : Ending) (w' : World) : Prop := e = .returned (getV (getR b p)) ∧ Below w.heap.size w w'
theorem two_ob' (w : World) (a b : Obj) : ((w.alloc a).alloc b).heap[w.heap.size]? = some a ∧ ((w.alloc a).alloc b).heap[w.heap.size + 1]? = some b ∧ Below w.heap.size w ((w.alloc a).alloc b) ∧ ((w.alloc a).alloc b).heap.size = w.heap.size + 2 := by
  have e := World.size_alloc w a
  have e2 := World.size_alloc (w.alloc a) b
  have h1 := heap_alloc_new w a
  have h2 := heap_alloc_new (w.alloc a) b
  have hb : Below w.heap.size w (w.alloc a) := (Below.refl _ _).alloc (Nat.le_refl _) _
  have hb2 : Below (w.alloc a).heap.size (w.alloc a) ((w.alloc a).alloc b) := (Below.refl _ _).alloc (Nat.le_refl _) _
  rw [e] at h2
  exact ⟨(hb2.block _ (by omega)).trans h1, h2, hb.trans (hb2.mono (by omega)), by omega⟩
theorem in_row' {w : World} {g : Nat} {t : TypeId} {o : Nat} {d s n : Int} (h : w.heap[g]? = some (.cells #[.int .u8 o, .int .i64 d, .int .i64 s, .int .i64 n] t (0, 0))) : w.rowIs g t 4 (inF o d s n) := ⟨_, h, rfl, fun i hi => by
  match i, hi with
  | 0, _ => rfl
  | 1, _ => rfl
  | 2, _ => rfl
  | 3, _ => rfl⟩
theorem byte7 {f : Nat} (hf : f < 256) : IntKind.i64.wrap (bits BinOp.and IntKind.u8 (f : Int) 7) = ((f % 8 : Nat) : Int) := by
  have h : ∀ f ∈ List.range 256, IntKind.i64.wrap (bits BinOp.and IntKind.u8 (f : Int) 7) = ((f % 8 : Nat) : Int) := by decide +kernel
  exact h f (List.mem_range.2 hf)
theorem i8_any {q : Nat} (hq : q < 256) : IntKind.i8.wrap (q : Int) = sg8 q := by
  have h : ∀ q ∈ List.range 256, IntKind.i8.wrap (q : Int) = sg8 q := by decide +kernel
  exact h q (List.mem_range.2 hq)
theorem jmp_n {p q : Nat} (hp : p < 65536) (hq : q < 256) : wrap64 ((p : Int) + 1 + 1 + wrap64 (IntKind.i8.wrap (q : Int))) = ((p + 1 + 1 : Nat) : Int) + sg8 q := by
  rw [i8_any hq]
  have h1 : -128 ≤ sg8 q ∧ sg8 q ≤ 127 := by unfold sg8; split <;> omega
  generalize sg8 q = y at *
  simp only [wrap64]
  omega
theorem lj_n {a c : Nat} (ha : a < 256) (hc : c < 256) : bits BinOp.or IntKind.i64 ((a : Int) * 256) (c : Int) = ((a * 256 + c : Nat) : Int) := by
  have h : ∀ a ∈ List.range 256, ∀ c ∈ List.range 256, bits BinOp.or IntKind.i64 ((a : Int) * 256) (c : Int) = ((a * 256 + c : Nat) : Int) := by decide +kernel
  exact h a (List.mem_range.2 ha) c (List.mem_range.2 hc)
theorem lj_m {a c : Nat} (ha : a < 256) (hc : c < 256) : bits BinOp.or IntKind.i64 (IntKind.i64.wrap (IntKind.i64.wrap (a : Int) * 256)) (IntKind.i64.wrap (c : Int)) = ((a * 256 + c : Nat) : Int) := by
  rw [wnN (x := (a : Int)) (n := a) (by omega) rfl, wnN (x := (c : Int)) (n := c) (by omega) rfl, wnN (x := (a : Int) * 256) (n := a * 256) (by omega) (by omega)]
  have := lj_n ha hc
  rw [← this]
  congr 1
theorem in_set4 {w : World} {g : Nat} {t : TypeId} {f : Nat → Value} (o : Nat) (d s n : Int) (h : w.rowIs g t 4 f) : ((((w.setCell ⟨g, 0, none⟩ (.int .u8 o)).setCell ⟨g, 1, none⟩ (.int .i64 d)).setCell ⟨g, 2, none⟩ (.int .i64 s)).setCell ⟨g, 3, none⟩ (.int .i64 n)).rowIs g t 4 (inF o d s n) :=
  ((((h.set 0 _).set 1 _).set 2 _).set 3 _).congr fun i hi => by
    match i, hi with
    | 0, _ => rfl
    | 1, _ => rfl
    | 2, _ => rfl
    | 3, _ => rfl
theorem in_setD {w : World} {g : Nat} {t : TypeId} {o : Nat} {d s n : Int} (x : Int) (h : w.rowIs g t 4 (inF o d s n)) : (w.setCell ⟨g, 1, none⟩ (.int .i64 x)).rowIs g t 4 (inF o x s n) :=
  (h.set 1 _).congr fun i hi => by
    match i, hi with
    | 0, _ => rfl
    | 1, _ => rfl
    | 2, _ => rfl
    | 3, _ => rfl
theorem in_setS {w : World} {g : Nat} {t : TypeId} {o : Nat} {d s n : Int} (x : Int) (h : w.rowIs g t 4 (inF o d s n)) : (w.setCell ⟨g, 2, none⟩ (.int .i64 x)).rowIs g t 4 (inF o d x n) :=
  (h.set 2 _).congr fun i hi => by
    match i, hi with
    | 0, _ => rfl
    | 1, _ => rfl
    | 2, _ => rfl
    | 3, _ => rfl
theorem in_setN {w : World} {g : Nat} {t : TypeId} {o : Nat} {d s n : Int} (x : Int) (h : w.rowIs g t 4 (inF o d s n)) : (w.setCell ⟨g, 3, none⟩ (.int .i64 x)).rowIs g t 4 (inF o d s x) :=
  (h.set 3 _).congr fun i hi => by
    match i, hi with
    | 0, _ => rfl
    | 1, _ => rfl
    | 2, _ => rfl
    | 3, _ => rfl
theorem in_bel {B g : Nat} {w w' : World} {u0 u1 u2 u3 : Value} (h : Below B w w') (hg : B ≤ g) : Below B w ((((w'.setCell ⟨g, 0, none⟩ u0).setCell ⟨g, 1, none⟩ u1).setCell ⟨g, 2, none⟩ u2).setCell ⟨g, 3, none⟩ u3) :=
  (((h.setCell (p := ⟨g, 0, none⟩) hg _).setCell (p := ⟨g, 1, none⟩) hg _).setCell (p := ⟨g, 2, none⟩) hg _).setCell (p := ⟨g, 3, none⟩) hg _
def BadX (x : Shp) (low : Nat) : Prop := x.operand = false ∧ (x.known = false ∨ max x.place 0 < (low : Int))
theorem getR_bad {b : List Nat} {p o low : Nat} {x : Shp} (ho : o = nth b p / 8) (hl : low = nth b p % 8) (hx : shp o = x) (h : BadX x low) : getR b p = (i0, 0, 110) := by
  unfold getR
  unfold nth at ho hl
  dsimp only
  rw [← ho, ← hl, hx, if_pos (show x.operand = false ∧ (x.known = false ∨ max x.place 0 < (low : Int)) from h)]
theorem getR_short {b : List Nat} {p o low m : Nat} {x : Shp} (ho : o = nth b p / 8) (hl : low = nth b p % 8) (hx : shp o = x) (h : ¬ BadX x low) (hm : moreX x (if x.operand then (low : Int) else 0) = m) (hs : b.length < p + 1 + m) : getR b p = (i0, 0, 12) := by
  unfold getR
  unfold nth at ho hl
  dsimp only
  rw [← ho, ← hl, hx, if_neg (show ¬ (x.operand = false ∧ (x.known = false ∨ max x.place 0 < (low : Int))) from h), hm, if_pos hs]
theorem getR_ok {b : List Nat} {p o low m : Nat} {x : Shp} {d s n : Int} (ho : o = nth b p / 8) (hl : low = nth b p % 8) (hx : shp o = x) (h : ¬ BadX x low) (hm : moreX x (if x.operand then (low : Int) else 0) = m) (hs : ¬ b.length < p + 1 + m)
    (e1 : (if x.operand then (0 : Int) else (low : Int)) = d) (e2 : getS x b p low = s) (e3 : getN x b p m = n) : getR b p = if rightI o d s n then (⟨o, d, s, n⟩, p + 1 + m, 0) else (i0, 0, 110) := by
  unfold getR
  unfold nth at ho hl
  dsimp only
  rw [← ho, ← hl, hx, if_neg (show ¬ (x.operand = false ∧ (x.known = false ∨ max x.place 0 < (low : Int))) from h), hm, if_neg hs, e1, e2, e3]
/-- Behind the first byte: the shape's row, the low bits. -/
def GtR (x : Shp) (low : Nat) (w2 : World) (s8 s9 : Value) (wx : World) : Prop := ∃ g, s8 = .pointer (some ⟨g, 0, none⟩) ∧ s9 = .int .i64 low ∧ wx.rowIs g 132 7 (shF x) ∧ w2.heap.size ≤ g ∧ Below w2.heap.size w2 wx
theorem cc_drew {w : World} {a b : Addr} {x y : Value} (h : w.cell? a = some x ∧ w.cell? b = some y) : w.drew.cell? a = some x ∧ w.drew.cell? b = some y := h
theorem cc_below {w w' : World} {B : Nat} {a b : Addr} {x y : Value} (hb : Below B w w') (h1 : a.block < B) (h2 : b.block < B) (h : w.cell? a = some x ∧ w.cell? b = some y) : w'.cell? a = some x ∧ w'.cell? b = some y :=
  ⟨(hb.cell h1).trans h.1, (hb.cell h2).trans h.2⟩
theorem cc_set {w : World} {q : Nat} {a b : Addr} {x y u0 u1 u2 u3 u4 u5 u6 : Value} (h1 : a.block < q) (h2 : b.block < q) (h : w.cell? a = some x ∧ w.cell? b = some y) : (((((((w.setCell ⟨q, 0, none⟩ u0).setCell ⟨q, 1, none⟩ u1).setCell ⟨q, 2, none⟩ u2).setCell ⟨q, 3, none⟩ u3).setCell ⟨q, 4, none⟩ u4).setCell ⟨q, 5, none⟩ u5).setCell ⟨q, 6, none⟩ u6).cell? a = some x ∧ (((((((w.setCell ⟨q, 0, none⟩ u0).setCell ⟨q, 1, none⟩ u1).setCell ⟨q, 2, none⟩ u2).setCell ⟨q, 3, none⟩ u3).setCell ⟨q, 4, none⟩ u4).setCell ⟨q, 5, none⟩ u5).setCell ⟨q, 6, none⟩ u6).cell? b = some y :=
  cc_below (w := w) (B := q) ((((((((Below.refl q w).setCell (p := ⟨q, 0, none⟩) (Nat.le_refl _) _).setCell (p := ⟨q, 1, none⟩) (Nat.le_refl _) _).setCell (p := ⟨q, 2, none⟩) (Nat.le_refl _) _).setCell (p := ⟨q, 3, none⟩) (Nat.le_refl _) _).setCell (p := ⟨q, 4, none⟩) (Nat.le_refl _) _).setCell (p := ⟨q, 5, none⟩) (Nat.le_refl _) _).setCell (p := ⟨q, 6, none⟩) (Nat.le_refl _) _) h1 h2 h
theorem cc_set2 {w : World} {q k : Nat} {a b : Addr} {x y u : Value} (h1 : a.block < q) (h2 : b.block < q) (h : w.cell? a = some x ∧ w.cell? b = some y) : (w.setCell ⟨q, k, none⟩ u).cell? a = some x ∧ (w.setCell ⟨q, k, none⟩ u).cell? b = some y :=
  cc_below (w := w) (B := q) ((Below.refl q w).setCell (p := ⟨q, k, none⟩) (Nat.le_refl _) _) h1 h2 h
theorem cc_set1 {w : World} {q k : Nat} {a b : Addr} {x y u : Value} (h1 : a.block < q) (h2 : b.block < q) (h : w.cell? a = some x ∧ w.cell? b = some y) : (w.setCell ⟨q, k, none⟩ u).drew.cell? a = some x ∧ (w.setCell ⟨q, k, none⟩ u).drew.cell? b = some y := cc_drew (cc_set2 h1 h2 h)
theorem row_dr {w : World} {g t n : Nat} {f : Nat → Value} (h : w.rowIs g t n f) : w.drew.rowIs g t n f := h
theorem cc_set3 {w : World} {q k : Nat} {a b : Addr} {x y u : Value} (h1 : a.block < q) (h2 : b.block < q) (h : w.cell? a = some x ∧ w.cell? b = some y) : (w.drew.setCell ⟨q, k, none⟩ u).cell? a = some x ∧ (w.drew.setCell ⟨q, k, none⟩ u).cell? b = some y := cc_set2 (w := w.drew) h1 h2 (cc_drew h)
theorem gt_alloc {x : Shp} {low : Nat} {w2 w6 : World} (hb : Below w2.heap.size w2 w6) :
    GtR x low w2 (.pointer (some ⟨w6.heap.size, 0, none⟩)) (.int .i64 low) (w6.alloc (.cells #[.bool x.known, .int .i64 x.place, .bool x.from', .bool x.operand, .bool x.number, .bool x.jump, .bool x.long] 132)) :=
  ⟨_, rfl, rfl, sh_row w6 x, hb.size, hb.alloc hb.size _⟩
theorem gt_set {x : Shp} {low : Nat} {w2 w6 : World} {f : Nat → Value} (hr : w6.rowIs w2.heap.size 132 7 f) (hb : Below w2.heap.size w2 w6) :
    GtR x low w2 (.pointer (some ⟨w2.heap.size, 0, none⟩)) (.int .i64 low) (((((((w6.setCell ⟨w2.heap.size, 0, none⟩ (.bool x.known)).setCell ⟨w2.heap.size, 1, none⟩ (.int .i64 x.place)).setCell ⟨w2.heap.size, 2, none⟩ (.bool x.from')).setCell ⟨w2.heap.size, 3, none⟩ (.bool x.operand)).setCell ⟨w2.heap.size, 4, none⟩ (.bool x.number)).setCell ⟨w2.heap.size, 5, none⟩ (.bool x.jump)).setCell ⟨w2.heap.size, 6, none⟩ (.bool x.long)) :=
  ⟨_, rfl, rfl, (((((((hr.set 0 _).set 1 _).set 2 _).set 3 _).set 4 _).set 5 _).set 6 _).congr fun i hi => (by
    match i, hi with
    | 0, _ => rfl
    | 1, _ => rfl
    | 2, _ => rfl
    | 3, _ => rfl
    | 4, _ => rfl
    | 5, _ => rfl
    | 6, _ => rfl), Nat.le_refl _, ((((((hb.setCell (p := ⟨w2.heap.size, 0, none⟩) (Nat.le_refl _) _).setCell (p := ⟨w2.heap.size, 1, none⟩) (Nat.le_refl _) _).setCell (p := ⟨w2.heap.size, 2, none⟩) (Nat.le_refl _) _).setCell (p := ⟨w2.heap.size, 3, none⟩) (Nat.le_refl _) _).setCell (p := ⟨w2.heap.size, 4, none⟩) (Nat.le_refl _) _).setCell (p := ⟨w2.heap.size, 5, none⟩) (Nat.le_refl _) _).setCell (p := ⟨w2.heap.size, 6, none⟩) (Nat.le_refl _) _⟩
set_option maxHeartbeats 8000000 in
theorem get_1 (b : List Nat) (p : Nat) (A : Option Addr) (c : Nat) (w : World) (hR : Rd w A b) (hp : p < b.length) (hb : b.length ≤ 65536) (x : Shp) (hx : shp (nth b p / 8) = x) : Calls Try.prog 30 #[.slice A b.length c, .int .i64 p] w (GetP b p w) := by
  have hne : b ≠ [] := by rintro rfl; exact absurd hp (Nat.not_lt_zero _)
  obtain ⟨g0, o0, rfl, hg0, hc0⟩ := hR.2 hne
  have hf := nth_lt hR.1 p
  have hcp := hc0 p hp
  obtain ⟨f, hff⟩ : ∃ f, f = nth b p := ⟨_, rfl⟩
  rw [← hff] at hcp hf hx
  obtain ⟨o, ho⟩ : ∃ o, o = f / 8 := ⟨_, rfl⟩
  obtain ⟨low, hlow⟩ : ∃ low, low = f % 8 := ⟨_, rfl⟩
  rw [← ho] at hx
  have e8 : (f : Int) / 8 = (o : Int) := by omega
  have E7 : Hid (IntKind.i64.wrap (bits BinOp.and IntKind.u8 (f : Int) 7) = (low : Int)) := by rw [hlow]; exact byte7 hf
  have b0 : ¬ (p : Int) < 0 := by omega
  have b1 : ¬ (b.length : Int) ≤ (p : Int) := by omega
  have b2 : ¬ (65536 : Int) < (b.length : Int) := by omega
  have b3 : (0 : Int) ≤ (p : Int) := by omega
  have b4 : (p : Int) < (b.length : Int) := by omega
  have HR := Lib.hid (And.intro hR (And.intro hg0 hc0))
  have HX := Lib.hid (And.intro hx (And.intro hff (And.intro ho hlow)))
  have HS := Lib.hid (shape_any o (by omega))
  rw [hx] at HS
  unfold shpC at HS
  have HF := Lib.hid (And.intro hf (And.intro hp hb))
  clear hc0 hR hx hff ho hlow hf hp hb hne
  go_enter Try.func30, Try.ntmps30
  go_upto_region 4 with fail
  obtain ⟨r4, r7, ab, asz⟩ := two_ob' w (.cells #[.int .u8 0, .int .i64 0, .int .i64 0, .int .i64 0] 56) (.cells #[.int .u8 o, .int .i64 0, .int .i64 0, .int .i64 0] 56)
  generalize (w.alloc (.cells #[.int .u8 0, .int .i64 0, .int .i64 0, .int .i64 0] 56)).alloc (.cells #[.int .u8 o, .int .i64 0, .int .i64 0, .int .i64 0] 56) = W2 at *
  have q4 := in_row' r4
  have q7 := in_row' r7
  have c7 : W2.cell? ⟨w.heap.size + 1, 0, none⟩ = some (.int .u8 o) := q7.cell (by omega)
  have cf : W2.cell? ⟨g0, o0 + p, none⟩ = some (.int .u8 f) := (ab.cell hg0).trans hcp
  have H7 := Lib.hid q7
  have H4 := Lib.hid q4
  have HAB := Lib.hid ab
  have HSZ := Lib.hid asz
  have HC := Lib.hid (And.intro c7 cf)
  have HC7 := Lib.hid (show w.heap.size + 1 < W2.heap.size by omega)
  have hgW : g0 < W2.heap.size := Nat.lt_of_lt_of_le hg0 ab.size
  have HGW := Lib.hid hgW
  have HAL := Lib.hid ((below_drewN' (Below.refl W2.heap.size W2) 1).alloc (Nat.le_refl _) (.cells #[.bool false, .int .i64 0, .bool false, .bool false, .bool false, .bool false, .bool false] 132))
  have HZ : Hid ((W2.drew.alloc (.cells #[.bool false, .int .i64 0, .bool false, .bool false, .bool false, .bool false, .bool false] 132)).rowIs W2.heap.size 132 7 (shF ⟨false, 0, false, false, false, false, false⟩)) := sh_row W2.drew ⟨false, 0, false, false, false, false, false⟩
  clear r4 r7 ab asz q4 q7 c7 cf hcp hg0 hgW
  obtain ⟨kn, pl, fr, op, nu, ju, lo⟩ := x
  dsimp only at HS
  go_cut [8, 9] (fun s8 s9 wx => GtR ⟨kn, pl, fr, op, nu, ju, lo⟩ low W2 s8 s9 wx)
  case first =>
    go_region_held3 (fun W => W.cell? ⟨w.heap.size + 1, 0, none⟩ = some (.int .u8 o) ∧ W.cell? ⟨g0, o0 + p, none⟩ = some (.int .u8 f))
      (first
        | with_reducible exact HC.out
        | with_reducible exact cc_drew HC.out
        | with_reducible exact HC6.out
        | with_reducible exact cc_set HC7.out HGW.out HC6.out
        | with_reducible exact cc_below HAL.out HC7.out HGW.out HC.out
        | with_reducible exact cc_below ((Below.refl W2.heap.size W2.drew).alloc (Nat.le_refl _) _) HC7.out HGW.out (cc_drew HC.out)
        | with_reducible exact cc_below ((Below.refl w6.heap.size w6).alloc (Nat.le_refl _) _) (Nat.lt_of_lt_of_le HC7.out HB6.out.size) (Nat.lt_of_lt_of_le HGW.out HB6.out.size) HC6.out
        | fail)
      (first
        | (go_at_call 60; (refine (HS.out _).mono ?_); rintro e w6 ⟨rfl, hb6⟩
           (first
             | (have HB6 : Hid (Below W2.heap.size W2 w6) := Lib.hid (by with_reducible exact HAL.out.trans (hb6.mono HAL.out.size))
                have HQ6 : Hid (w6.rowIs W2.heap.size 132 7 (shF ⟨false, 0, false, false, false, false, false⟩)) := below_row hb6 HZ.out HZ.out.lt
                have z0 := HQ6.out.cell (show 0 < 7 by omega)
                have z1 := HQ6.out.cell (show 1 < 7 by omega)
                have z2 := HQ6.out.cell (show 2 < 7 by omega)
                have z3 := HQ6.out.cell (show 3 < 7 by omega)
                have z4 := HQ6.out.cell (show 4 < 7 by omega)
                have z5 := HQ6.out.cell (show 5 < 7 by omega)
                have z6 := HQ6.out.cell (show 6 < 7 by omega)
                have y0 := HQ6.out.frozen 0
                have y1 := HQ6.out.frozen 1
                have y2 := HQ6.out.frozen 2
                have y3 := HQ6.out.frozen 3
                have y4 := HQ6.out.frozen 4
                have y5 := HQ6.out.frozen 5
                have y6 := HQ6.out.frozen 6
                dsimp only [shF] at z0 z1 z2 z3 z4 z5 z6)
             | (have HB6 : Hid (Below W2.heap.size W2 w6) := (below_drewN' (Below.refl _ _) 1).trans hb6))
           have HC6 := Lib.hid (cc_below HB6.out HC7.out HGW.out HC.out)
           clear hb6))
    all_goals
      go_wp2_with fail
      go_meet
      rw [E7.out]
      first
        | with_reducible exact gt_alloc (x := ⟨kn, pl, fr, op, nu, ju, lo⟩) HB6.out
        | with_reducible exact gt_set (x := ⟨kn, pl, fr, op, nu, ju, lo⟩) HQ6.out HB6.out
  case rest =>
    obtain ⟨g8, rfl, rfl, hr8, hg8, hbc⟩ := hcut
    have hm := shp_mem o
    have HO : Hid (o = nth b p / 8) := by rw [← HX.out.2.1]; exact HX.out.2.2.1
    have HLO : Hid (low = nth b p % 8) := by rw [← HX.out.2.1]; exact HX.out.2.2.2
    have HO8 : Hid (o < 256) := by have := HF.out; have := HX.out.2.2.1; unfold Hid; omega
    have hlow8 : low < 8 := by have := HX.out.2.2.2; omega
    have hx := HX.out.1
    rw [hx] at hm
    clear HX
    have HX := Lib.hid hx
    have HL8 := Lib.hid hlow8
    clear hlow8
    have HG := Lib.hid (And.intro (below_row hbc H4.out H4.out.lt) (And.intro (below_row hbc H7.out H7.out.lt) hr8))
    have HBC := Lib.hid (HAB.out.trans (hbc.mono HAB.out.size))
    have HG8 : Hid (g8 ≠ w.heap.size + 1) := by have := HSZ.out; unfold Hid; omega
    clear hx HC HC7 HGW HAL HZ H4 H7 HS hr8 hg8 hbc HAB b0 b1 b2 b3 b4 HSZ e8 E7
    unfold shapes at hm
    simp only [List.mem_cons, List.not_mem_nil, or_false, Shp.mk.injEq] at hm
    rcases hm with ⟨rfl, rfl, rfl, rfl, rfl, rfl, rfl⟩ | ⟨rfl, rfl, rfl, rfl, rfl, rfl, rfl⟩ | ⟨rfl, rfl, rfl, rfl, rfl, rfl, rfl⟩ | ⟨rfl, rfl, rfl, rfl, rfl, rfl, rfl⟩ | ⟨rfl, rfl, rfl, rfl, rfl, rfl, rfl⟩ | ⟨rfl, rfl, rfl, rfl, rfl, rfl, rfl⟩ | ⟨rfl, rfl, rfl, rfl, rfl, rfl, rfl⟩ | ⟨rfl, rfl, rfl, rfl, rfl, rfl, rfl⟩ | ⟨rfl, rfl, rfl, rfl, rfl, rfl, rfl⟩ | ⟨rfl, rfl, rfl, rfl, rfl, rfl, rfl⟩
    ·
      obtain ⟨r4, r7, r8⟩ := HG.out
      have z0 := r4.cell (show 0 < 4 by omega)
      have z1 := r4.cell (show 1 < 4 by omega)
      have z2 := r4.cell (show 2 < 4 by omega)
      have z3 := r4.cell (show 3 < 4 by omega)
      dsimp only [inF] at z0 z1 z2 z3
      have c0 := r7.cell (show 0 < 4 by omega)
      have c1 := r7.cell (show 1 < 4 by omega)
      have c2 := r7.cell (show 2 < 4 by omega)
      have c3 := r7.cell (show 3 < 4 by omega)
      dsimp only [inF] at c0 c1 c2 c3
      have y0 := r4.frozen 0
      have y1 := r4.frozen 1
      have y2 := r4.frozen 2
      have y3 := r4.frozen 3
      have v0 := r7.frozen 0
      have v1 := r7.frozen 1
      have v2 := r7.frozen 2
      have v3 := r7.frozen 3
      have s0 := r8.cell (show 0 < 7 by omega)
      have s1 := r8.cell (show 1 < 7 by omega)
      have s2 := r8.cell (show 2 < 7 by omega)
      have s3 := r8.cell (show 3 < 7 by omega)
      have s4 := r8.cell (show 4 < 7 by omega)
      have s5 := r8.cell (show 5 < 7 by omega)
      have s6 := r8.cell (show 6 < 7 by omega)
      dsimp only [shF] at s0 s1 s2 s3 s4 s5 s6
      by_cases hl : (0 : Int) < (low : Int)
      · have HL : Hid (BadX ⟨true, -1, false, false, false, false, false⟩ low) := ⟨rfl, .inr hl⟩
        go_wp2_with fail
        (try simp only [Exit.inBlock, Exit.then])
        refine bodyPost_ret (in_results rfl _ _ w.heap.size rfl (in_set4 0 0 0 0 r4)) rfl ?_
        refine ⟨?_, in_bel HBC.out (Nat.le_refl _)⟩
        rw [getR_bad HO.out HLO.out HX.out HL.out]; rfl
      have HL : Hid (¬ BadX ⟨true, -1, false, false, false, false, false⟩ low) := fun h => h.2.elim (fun h => by cases h) (fun h => hl h)
      have HM := Lib.hid (fun W => more_any o HO8.out low 0 0 W)
      rw [show moreI ⟨o, low, 0, 0⟩ = 0 by unfold moreI; rw [HX.out]; rfl] at HM
      unfold insV at HM
      go_wp2_with fail
      have hq7 := in_setD (low : Int) r7
      have hbq : Below w.heap.size w (wc.setCell ⟨w.heap.size + 1, 1, none⟩ (.int .i64 low)) := HBC.out.setCell (p := ⟨w.heap.size + 1, 1, none⟩) (Nat.le_succ _) _
      have hq4 := row_oth r4 (show w.heap.size ≠ w.heap.size + 1 by omega) 1 (.int .i64 low)
      have hq8 := row_oth r8 HG8.out 1 (.int .i64 low)
      refine (HM.out _).mono ?_
      rintro e w5 ⟨rfl, hb5⟩
      have HB5 := Lib.hid (hbq.trans (hb5.mono hbq.size))
      clear z0 z1 z2 z3 c0 c1 c2 c3 y0 y1 y2 y3 v0 v1 v2 v3 s0 s1 s2 s3 s4 s5 s6 r4 r7 r8
      clear HG
      have HG := Lib.hid (And.intro (below_row hb5 hq4 hq4.lt) (And.intro (below_row hb5 hq7 hq7.lt) (below_row hb5 hq8 hq8.lt)))
      clear hq7 hbq hq4 hq8 hb5 HM HBC
      have hp16 : p < 65536 := by have := HF.out; omega
      obtain ⟨r4, r7, r8⟩ := HG.out
      have z0 := r4.cell (show 0 < 4 by omega)
      have z1 := r4.cell (show 1 < 4 by omega)
      have z2 := r4.cell (show 2 < 4 by omega)
      have z3 := r4.cell (show 3 < 4 by omega)
      dsimp only [inF] at z0 z1 z2 z3
      have c0 := r7.cell (show 0 < 4 by omega)
      have c1 := r7.cell (show 1 < 4 by omega)
      have c2 := r7.cell (show 2 < 4 by omega)
      have c3 := r7.cell (show 3 < 4 by omega)
      dsimp only [inF] at c0 c1 c2 c3
      have y0 := r4.frozen 0
      have y1 := r4.frozen 1
      have y2 := r4.frozen 2
      have y3 := r4.frozen 3
      have v0 := r7.frozen 0
      have v1 := r7.frozen 1
      have v2 := r7.frozen 2
      have v3 := r7.frozen 3
      have s0 := r8.cell (show 0 < 7 by omega)
      have s1 := r8.cell (show 1 < 7 by omega)
      have s2 := r8.cell (show 2 < 7 by omega)
      have s3 := r8.cell (show 3 < 7 by omega)
      have s4 := r8.cell (show 4 < 7 by omega)
      have s5 := r8.cell (show 5 < 7 by omega)
      have s6 := r8.cell (show 6 < 7 by omega)
      dsimp only [shF] at s0 s1 s2 s3 s4 s5 s6
      clear hl
      have hsh : ¬ b.length < p + 1 + 0 := by have := HF.out; omega
      have HMX : Hid (moreX (⟨true, -1, false, false, false, false, false⟩ : Shp) (if (⟨true, -1, false, false, false, false, false⟩ : Shp).operand then (low : Int) else 0) = 0) := rfl
      have HGE : Hid (getR b p = if rightI o low 0 0 then (⟨o, low, 0, 0⟩, p + 1 + 0, 0) else (i0, 0, 110)) := getR_ok HO.out HLO.out HX.out HL.out (m := 0) HMX.out hsh (by first | rfl | simp) (by first | rfl | (unfold getS; simp)) (by first | rfl | exact HZ8.out | (unfold getN; simp))
      have HSH := Lib.hid hsh
      clear hsh
      have i2 : ¬ (b.length : Int) < (p : Int) + 1 := by have := HF.out; omega
      have hq4 := r4
      have hq7 := r7
      have hq8 := r8
      have hbq := HB5.out
      go_wp2_with fail
      refine (right_any o HO8.out low 0 0 _).mono ?_
      rintro e w6 ⟨rfl, hb6⟩
      have HB6 := Lib.hid (hbq.trans (hb6.mono hbq.size))
      clear z0 z1 z2 z3 c0 c1 c2 c3 y0 y1 y2 y3 v0 v1 v2 v3 s0 s1 s2 s3 s4 s5 s6 r4 r7 r8
      clear HG HB5
      have HG := Lib.hid (And.intro (below_row hb6 hq4 hq4.lt) (And.intro (below_row hb6 hq7 hq7.lt) (below_row hb6 hq8 hq8.lt)))
      clear hq7 hbq hq4 hq8 hb6
      obtain ⟨r4, r7, r8⟩ := HG.out
      have z0 := r4.cell (show 0 < 4 by omega)
      have z1 := r4.cell (show 1 < 4 by omega)
      have z2 := r4.cell (show 2 < 4 by omega)
      have z3 := r4.cell (show 3 < 4 by omega)
      dsimp only [inF] at z0 z1 z2 z3
      have c0 := r7.cell (show 0 < 4 by omega)
      have c1 := r7.cell (show 1 < 4 by omega)
      have c2 := r7.cell (show 2 < 4 by omega)
      have c3 := r7.cell (show 3 < 4 by omega)
      dsimp only [inF] at c0 c1 c2 c3
      have y0 := r4.frozen 0
      have y1 := r4.frozen 1
      have y2 := r4.frozen 2
      have y3 := r4.frozen 3
      have v0 := r7.frozen 0
      have v1 := r7.frozen 1
      have v2 := r7.frozen 2
      have v3 := r7.frozen 3
      have s0 := r8.cell (show 0 < 7 by omega)
      have s1 := r8.cell (show 1 < 7 by omega)
      have s2 := r8.cell (show 2 < 7 by omega)
      have s3 := r8.cell (show 3 < 7 by omega)
      have s4 := r8.cell (show 4 < 7 by omega)
      have s5 := r8.cell (show 5 < 7 by omega)
      have s6 := r8.cell (show 6 < 7 by omega)
      dsimp only [shF] at s0 s1 s2 s3 s4 s5 s6
      obtain ⟨ri, hri⟩ : ∃ ri, rightI o low 0 0 = ri := ⟨_, rfl⟩
      rw [hri]
      have HRI := Lib.hid hri
      clear hri
      cases ri with
      | false =>
        go_wp2_with fail
        (try simp only [Exit.inBlock, Exit.then])
        refine bodyPost_ret (in_results rfl _ _ w.heap.size rfl (in_set4 0 0 0 0 r4)) rfl ?_
        refine ⟨?_, in_bel HB6.out (Nat.le_refl _)⟩
        rw [HGE.out, HRI.out]; rfl
      | true =>
        go_wp2_with fail
        (try simp only [Exit.inBlock, Exit.then])
        refine bodyPost_ret (in_results rfl _ _ w.heap.size rfl (in_set4 o low 0 0 r4)) rfl ?_
        refine ⟨?_, in_bel HB6.out (Nat.le_refl _)⟩
        rw [HGE.out, HRI.out]; rfl
    ·
      obtain ⟨r4, r7, r8⟩ := HG.out
      have z0 := r4.cell (show 0 < 4 by omega)
      have z1 := r4.cell (show 1 < 4 by omega)
      have z2 := r4.cell (show 2 < 4 by omega)
      have z3 := r4.cell (show 3 < 4 by omega)
      dsimp only [inF] at z0 z1 z2 z3
      have c0 := r7.cell (show 0 < 4 by omega)
      have c1 := r7.cell (show 1 < 4 by omega)
      have c2 := r7.cell (show 2 < 4 by omega)
      have c3 := r7.cell (show 3 < 4 by omega)
      dsimp only [inF] at c0 c1 c2 c3
      have y0 := r4.frozen 0
      have y1 := r4.frozen 1
      have y2 := r4.frozen 2
      have y3 := r4.frozen 3
      have v0 := r7.frozen 0
      have v1 := r7.frozen 1
      have v2 := r7.frozen 2
      have v3 := r7.frozen 3
      have s0 := r8.cell (show 0 < 7 by omega)
      have s1 := r8.cell (show 1 < 7 by omega)
      have s2 := r8.cell (show 2 < 7 by omega)
      have s3 := r8.cell (show 3 < 7 by omega)
      have s4 := r8.cell (show 4 < 7 by omega)
      have s5 := r8.cell (show 5 < 7 by omega)
      have s6 := r8.cell (show 6 < 7 by omega)
      dsimp only [shF] at s0 s1 s2 s3 s4 s5 s6
      by_cases hl : (6 : Int) < (low : Int)
      · have HL : Hid (BadX ⟨true, 6, true, false, false, false, false⟩ low) := ⟨rfl, .inr hl⟩
        go_wp2_with fail
        (try simp only [Exit.inBlock, Exit.then])
        refine bodyPost_ret (in_results rfl _ _ w.heap.size rfl (in_set4 0 0 0 0 r4)) rfl ?_
        refine ⟨?_, in_bel HBC.out (Nat.le_refl _)⟩
        rw [getR_bad HO.out HLO.out HX.out HL.out]; rfl
      have HL : Hid (¬ BadX ⟨true, 6, true, false, false, false, false⟩ low) := fun h => h.2.elim (fun h => by cases h) (fun h => hl h)
      have HM := Lib.hid (fun W => more_any o HO8.out low 0 0 W)
      rw [show moreI ⟨o, low, 0, 0⟩ = 1 by unfold moreI; rw [HX.out]; rfl] at HM
      unfold insV at HM
      go_wp2_with fail
      have hq7 := in_setD (low : Int) r7
      have hbq : Below w.heap.size w (wc.setCell ⟨w.heap.size + 1, 1, none⟩ (.int .i64 low)) := HBC.out.setCell (p := ⟨w.heap.size + 1, 1, none⟩) (Nat.le_succ _) _
      have hq4 := row_oth r4 (show w.heap.size ≠ w.heap.size + 1 by omega) 1 (.int .i64 low)
      have hq8 := row_oth r8 HG8.out 1 (.int .i64 low)
      refine (HM.out _).mono ?_
      rintro e w5 ⟨rfl, hb5⟩
      have HB5 := Lib.hid (hbq.trans (hb5.mono hbq.size))
      clear z0 z1 z2 z3 c0 c1 c2 c3 y0 y1 y2 y3 v0 v1 v2 v3 s0 s1 s2 s3 s4 s5 s6 r4 r7 r8
      clear HG
      have HG := Lib.hid (And.intro (below_row hb5 hq4 hq4.lt) (And.intro (below_row hb5 hq7 hq7.lt) (below_row hb5 hq8 hq8.lt)))
      clear hq7 hbq hq4 hq8 hb5 HM HBC
      have hp16 : p < 65536 := by have := HF.out; omega
      obtain ⟨r4, r7, r8⟩ := HG.out
      have z0 := r4.cell (show 0 < 4 by omega)
      have z1 := r4.cell (show 1 < 4 by omega)
      have z2 := r4.cell (show 2 < 4 by omega)
      have z3 := r4.cell (show 3 < 4 by omega)
      dsimp only [inF] at z0 z1 z2 z3
      have c0 := r7.cell (show 0 < 4 by omega)
      have c1 := r7.cell (show 1 < 4 by omega)
      have c2 := r7.cell (show 2 < 4 by omega)
      have c3 := r7.cell (show 3 < 4 by omega)
      dsimp only [inF] at c0 c1 c2 c3
      have y0 := r4.frozen 0
      have y1 := r4.frozen 1
      have y2 := r4.frozen 2
      have y3 := r4.frozen 3
      have v0 := r7.frozen 0
      have v1 := r7.frozen 1
      have v2 := r7.frozen 2
      have v3 := r7.frozen 3
      have s0 := r8.cell (show 0 < 7 by omega)
      have s1 := r8.cell (show 1 < 7 by omega)
      have s2 := r8.cell (show 2 < 7 by omega)
      have s3 := r8.cell (show 3 < 7 by omega)
      have s4 := r8.cell (show 4 < 7 by omega)
      have s5 := r8.cell (show 5 < 7 by omega)
      have s6 := r8.cell (show 6 < 7 by omega)
      dsimp only [shF] at s0 s1 s2 s3 s4 s5 s6
      clear hl
      have HMX : Hid (moreX (⟨true, 6, true, false, false, false, false⟩ : Shp) (if (⟨true, 6, true, false, false, false, false⟩ : Shp).operand then (low : Int) else 0) = 1) := rfl
      by_cases hsh : b.length < p + 1 + 1
      ·
        have i2 : (b.length : Int) < (p : Int) + 1 + 1 := by omega
        have HSH := Lib.hid hsh
        clear hsh
        go_wp2_with fail
        (try simp only [Exit.inBlock, Exit.then])
        refine bodyPost_ret (in_results rfl _ _ w.heap.size rfl (in_set4 0 0 0 0 r4)) rfl ?_
        refine ⟨?_, in_bel HB5.out (Nat.le_refl _)⟩
        rw [getR_short HO.out HLO.out HX.out HL.out (m := 1) HMX.out HSH.out]; rfl
      ·
        have i2 : ¬ (b.length : Int) < (p : Int) + 1 + 1 := by omega
        have b5 : (0 : Int) ≤ (p : Int) + 1 := by omega
        have b6 : (p : Int) + 1 < (b.length : Int) := by omega
        have hq1 := nth_lt HR.out.1.1 (p + 1)
        have hc5 : w5.cell? ⟨g0, o0 + (p + 1), none⟩ = some (.int .u8 (nth b (p + 1))) := (HB5.out.cell HR.out.2.1).trans (HR.out.2.2 (p + 1) (by omega))
        have HQ1 : Hid (nth b (p + 1) = b.getD (p + 1) 0) := rfl
        have HGE : Hid (getR b p = if rightI o low (nth b (p + 1)) 0 then (⟨o, low, (nth b (p + 1)), 0⟩, p + 1 + 1, 0) else (i0, 0, 110)) := getR_ok HO.out HLO.out HX.out HL.out (m := 1) HMX.out hsh (by first | rfl | simp) (by first | rfl | (unfold getS; simp)) (by first | rfl | exact HZ8.out | (unfold getN; simp))
        have HSH := Lib.hid hsh
        clear hsh
        have hq7 := in_setS ((nth b (p + 1)) : Int) r7
        have hbq : Below w.heap.size w (w5.setCell ⟨w.heap.size + 1, 2, none⟩ (.int .i64 (nth b (p + 1)))) := HB5.out.setCell (p := ⟨w.heap.size + 1, 2, none⟩) (Nat.le_succ _) _
        have hq4 := row_oth r4 (show w.heap.size ≠ w.heap.size + 1 by omega) 2 (.int .i64 (nth b (p + 1)))
        have hq8 := row_oth r8 HG8.out 2 (.int .i64 (nth b (p + 1)))
        go_wp2_with fail
        refine (right_any o HO8.out low (nth b (p + 1)) 0 _).mono ?_
        rintro e w6 ⟨rfl, hb6⟩
        have HB6 := Lib.hid (hbq.trans (hb6.mono hbq.size))
        clear z0 z1 z2 z3 c0 c1 c2 c3 y0 y1 y2 y3 v0 v1 v2 v3 s0 s1 s2 s3 s4 s5 s6 r4 r7 r8
        clear HG HB5
        have HG := Lib.hid (And.intro (below_row hb6 hq4 hq4.lt) (And.intro (below_row hb6 hq7 hq7.lt) (below_row hb6 hq8 hq8.lt)))
        clear hq7 hbq hq4 hq8 hb6
        obtain ⟨r4, r7, r8⟩ := HG.out
        have z0 := r4.cell (show 0 < 4 by omega)
        have z1 := r4.cell (show 1 < 4 by omega)
        have z2 := r4.cell (show 2 < 4 by omega)
        have z3 := r4.cell (show 3 < 4 by omega)
        dsimp only [inF] at z0 z1 z2 z3
        have c0 := r7.cell (show 0 < 4 by omega)
        have c1 := r7.cell (show 1 < 4 by omega)
        have c2 := r7.cell (show 2 < 4 by omega)
        have c3 := r7.cell (show 3 < 4 by omega)
        dsimp only [inF] at c0 c1 c2 c3
        have y0 := r4.frozen 0
        have y1 := r4.frozen 1
        have y2 := r4.frozen 2
        have y3 := r4.frozen 3
        have v0 := r7.frozen 0
        have v1 := r7.frozen 1
        have v2 := r7.frozen 2
        have v3 := r7.frozen 3
        have s0 := r8.cell (show 0 < 7 by omega)
        have s1 := r8.cell (show 1 < 7 by omega)
        have s2 := r8.cell (show 2 < 7 by omega)
        have s3 := r8.cell (show 3 < 7 by omega)
        have s4 := r8.cell (show 4 < 7 by omega)
        have s5 := r8.cell (show 5 < 7 by omega)
        have s6 := r8.cell (show 6 < 7 by omega)
        dsimp only [shF] at s0 s1 s2 s3 s4 s5 s6
        obtain ⟨ri, hri⟩ : ∃ ri, rightI o low (nth b (p + 1)) 0 = ri := ⟨_, rfl⟩
        rw [hri]
        have HRI := Lib.hid hri
        clear hri
        cases ri with
        | false =>
          go_wp2_with fail
          (try simp only [Exit.inBlock, Exit.then])
          refine bodyPost_ret (in_results rfl _ _ w.heap.size rfl (in_set4 0 0 0 0 r4)) rfl ?_
          refine ⟨?_, in_bel HB6.out (Nat.le_refl _)⟩
          rw [HGE.out, HRI.out]; rfl
        | true =>
          go_wp2_with fail
          (try simp only [Exit.inBlock, Exit.then])
          refine bodyPost_ret (in_results rfl _ _ w.heap.size rfl (in_set4 o low (nth b (p + 1)) 0 r4)) rfl ?_
          refine ⟨?_, in_bel HB6.out (Nat.le_refl _)⟩
          rw [HGE.out, HRI.out]; rfl
    ·
      obtain ⟨r4, r7, r8⟩ := HG.out
      have z0 := r4.cell (show 0 < 4 by omega)
      have z1 := r4.cell (show 1 < 4 by omega)
      have z2 := r4.cell (show 2 < 4 by omega)
      have z3 := r4.cell (show 3 < 4 by omega)
      dsimp only [inF] at z0 z1 z2 z3
      have c0 := r7.cell (show 0 < 4 by omega)
      have c1 := r7.cell (show 1 < 4 by omega)
      have c2 := r7.cell (show 2 < 4 by omega)
      have c3 := r7.cell (show 3 < 4 by omega)
      dsimp only [inF] at c0 c1 c2 c3
      have y0 := r4.frozen 0
      have y1 := r4.frozen 1
      have y2 := r4.frozen 2
      have y3 := r4.frozen 3
      have v0 := r7.frozen 0
      have v1 := r7.frozen 1
      have v2 := r7.frozen 2
      have v3 := r7.frozen 3
      have s0 := r8.cell (show 0 < 7 by omega)
      have s1 := r8.cell (show 1 < 7 by omega)
      have s2 := r8.cell (show 2 < 7 by omega)
      have s3 := r8.cell (show 3 < 7 by omega)
      have s4 := r8.cell (show 4 < 7 by omega)
      have s5 := r8.cell (show 5 < 7 by omega)
      have s6 := r8.cell (show 6 < 7 by omega)
      dsimp only [shF] at s0 s1 s2 s3 s4 s5 s6
      by_cases hl : (6 : Int) < (low : Int)
      · have HL : Hid (BadX ⟨true, 6, false, false, true, false, false⟩ low) := ⟨rfl, .inr hl⟩
        go_wp2_with fail
        (try simp only [Exit.inBlock, Exit.then])
        refine bodyPost_ret (in_results rfl _ _ w.heap.size rfl (in_set4 0 0 0 0 r4)) rfl ?_
        refine ⟨?_, in_bel HBC.out (Nat.le_refl _)⟩
        rw [getR_bad HO.out HLO.out HX.out HL.out]; rfl
      have HL : Hid (¬ BadX ⟨true, 6, false, false, true, false, false⟩ low) := fun h => h.2.elim (fun h => by cases h) (fun h => hl h)
      have HM := Lib.hid (fun W => more_any o HO8.out low 0 0 W)
      rw [show moreI ⟨o, low, 0, 0⟩ = 1 by unfold moreI; rw [HX.out]; rfl] at HM
      unfold insV at HM
      go_wp2_with fail
      have hq7 := in_setD (low : Int) r7
      have hbq : Below w.heap.size w (wc.setCell ⟨w.heap.size + 1, 1, none⟩ (.int .i64 low)) := HBC.out.setCell (p := ⟨w.heap.size + 1, 1, none⟩) (Nat.le_succ _) _
      have hq4 := row_oth r4 (show w.heap.size ≠ w.heap.size + 1 by omega) 1 (.int .i64 low)
      have hq8 := row_oth r8 HG8.out 1 (.int .i64 low)
      refine (HM.out _).mono ?_
      rintro e w5 ⟨rfl, hb5⟩
      have HB5 := Lib.hid (hbq.trans (hb5.mono hbq.size))
      clear z0 z1 z2 z3 c0 c1 c2 c3 y0 y1 y2 y3 v0 v1 v2 v3 s0 s1 s2 s3 s4 s5 s6 r4 r7 r8
      clear HG
      have HG := Lib.hid (And.intro (below_row hb5 hq4 hq4.lt) (And.intro (below_row hb5 hq7 hq7.lt) (below_row hb5 hq8 hq8.lt)))
      clear hq7 hbq hq4 hq8 hb5 HM HBC
      have hp16 : p < 65536 := by have := HF.out; omega
      obtain ⟨r4, r7, r8⟩ := HG.out
      have z0 := r4.cell (show 0 < 4 by omega)
      have z1 := r4.cell (show 1 < 4 by omega)
      have z2 := r4.cell (show 2 < 4 by omega)
      have z3 := r4.cell (show 3 < 4 by omega)
      dsimp only [inF] at z0 z1 z2 z3
      have c0 := r7.cell (show 0 < 4 by omega)
      have c1 := r7.cell (show 1 < 4 by omega)
      have c2 := r7.cell (show 2 < 4 by omega)
      have c3 := r7.cell (show 3 < 4 by omega)
      dsimp only [inF] at c0 c1 c2 c3
      have y0 := r4.frozen 0
      have y1 := r4.frozen 1
      have y2 := r4.frozen 2
      have y3 := r4.frozen 3
      have v0 := r7.frozen 0
      have v1 := r7.frozen 1
      have v2 := r7.frozen 2
      have v3 := r7.frozen 3
      have s0 := r8.cell (show 0 < 7 by omega)
      have s1 := r8.cell (show 1 < 7 by omega)
      have s2 := r8.cell (show 2 < 7 by omega)
      have s3 := r8.cell (show 3 < 7 by omega)
      have s4 := r8.cell (show 4 < 7 by omega)
      have s5 := r8.cell (show 5 < 7 by omega)
      have s6 := r8.cell (show 6 < 7 by omega)
      dsimp only [shF] at s0 s1 s2 s3 s4 s5 s6
      clear hl
      have HMX : Hid (moreX (⟨true, 6, false, false, true, false, false⟩ : Shp) (if (⟨true, 6, false, false, true, false, false⟩ : Shp).operand then (low : Int) else 0) = 1) := rfl
      by_cases hsh : b.length < p + 1 + 1
      ·
        have i2 : (b.length : Int) < (p : Int) + 1 + 1 := by omega
        have HSH := Lib.hid hsh
        clear hsh
        go_wp2_with fail
        (try simp only [Exit.inBlock, Exit.then])
        refine bodyPost_ret (in_results rfl _ _ w.heap.size rfl (in_set4 0 0 0 0 r4)) rfl ?_
        refine ⟨?_, in_bel HB5.out (Nat.le_refl _)⟩
        rw [getR_short HO.out HLO.out HX.out HL.out (m := 1) HMX.out HSH.out]; rfl
      ·
        have i2 : ¬ (b.length : Int) < (p : Int) + 1 + 1 := by omega
        have b5 : (0 : Int) ≤ (p : Int) + 1 := by omega
        have b6 : (p : Int) + 1 < (b.length : Int) := by omega
        have hq1 := nth_lt HR.out.1.1 (p + 1)
        have hc5 : w5.cell? ⟨g0, o0 + (p + 1), none⟩ = some (.int .u8 (nth b (p + 1))) := (HB5.out.cell HR.out.2.1).trans (HR.out.2.2 (p + 1) (by omega))
        have HQ1 : Hid (nth b (p + 1) = b.getD (p + 1) 0) := rfl
        have HGE : Hid (getR b p = if rightI o low 0 (nth b (p + 1)) then (⟨o, low, 0, (nth b (p + 1))⟩, p + 1 + 1, 0) else (i0, 0, 110)) := getR_ok HO.out HLO.out HX.out HL.out (m := 1) HMX.out hsh (by first | rfl | simp) (by first | rfl | (unfold getS; simp)) (by first | rfl | exact HZ8.out | (unfold getN; simp))
        have HSH := Lib.hid hsh
        clear hsh
        have hq7 := in_setN ((nth b (p + 1)) : Int) r7
        have hbq : Below w.heap.size w (w5.setCell ⟨w.heap.size + 1, 3, none⟩ (.int .i64 (nth b (p + 1)))) := HB5.out.setCell (p := ⟨w.heap.size + 1, 3, none⟩) (Nat.le_succ _) _
        have hq4 := row_oth r4 (show w.heap.size ≠ w.heap.size + 1 by omega) 3 (.int .i64 (nth b (p + 1)))
        have hq8 := row_oth r8 HG8.out 3 (.int .i64 (nth b (p + 1)))
        go_wp2_with fail
        refine (right_any o HO8.out low 0 (nth b (p + 1)) _).mono ?_
        rintro e w6 ⟨rfl, hb6⟩
        have HB6 := Lib.hid (hbq.trans (hb6.mono hbq.size))
        clear z0 z1 z2 z3 c0 c1 c2 c3 y0 y1 y2 y3 v0 v1 v2 v3 s0 s1 s2 s3 s4 s5 s6 r4 r7 r8
        clear HG HB5
        have HG := Lib.hid (And.intro (below_row hb6 hq4 hq4.lt) (And.intro (below_row hb6 hq7 hq7.lt) (below_row hb6 hq8 hq8.lt)))
        clear hq7 hbq hq4 hq8 hb6
        obtain ⟨r4, r7, r8⟩ := HG.out
        have z0 := r4.cell (show 0 < 4 by omega)
        have z1 := r4.cell (show 1 < 4 by omega)
        have z2 := r4.cell (show 2 < 4 by omega)
        have z3 := r4.cell (show 3 < 4 by omega)
        dsimp only [inF] at z0 z1 z2 z3
        have c0 := r7.cell (show 0 < 4 by omega)
        have c1 := r7.cell (show 1 < 4 by omega)
        have c2 := r7.cell (show 2 < 4 by omega)
        have c3 := r7.cell (show 3 < 4 by omega)
        dsimp only [inF] at c0 c1 c2 c3
        have y0 := r4.frozen 0
        have y1 := r4.frozen 1
        have y2 := r4.frozen 2
        have y3 := r4.frozen 3
        have v0 := r7.frozen 0
        have v1 := r7.frozen 1
        have v2 := r7.frozen 2
        have v3 := r7.frozen 3
        have s0 := r8.cell (show 0 < 7 by omega)
        have s1 := r8.cell (show 1 < 7 by omega)
        have s2 := r8.cell (show 2 < 7 by omega)
        have s3 := r8.cell (show 3 < 7 by omega)
        have s4 := r8.cell (show 4 < 7 by omega)
        have s5 := r8.cell (show 5 < 7 by omega)
        have s6 := r8.cell (show 6 < 7 by omega)
        dsimp only [shF] at s0 s1 s2 s3 s4 s5 s6
        obtain ⟨ri, hri⟩ : ∃ ri, rightI o low 0 (nth b (p + 1)) = ri := ⟨_, rfl⟩
        rw [hri]
        have HRI := Lib.hid hri
        clear hri
        cases ri with
        | false =>
          go_wp2_with fail
          (try simp only [Exit.inBlock, Exit.then])
          refine bodyPost_ret (in_results rfl _ _ w.heap.size rfl (in_set4 0 0 0 0 r4)) rfl ?_
          refine ⟨?_, in_bel HB6.out (Nat.le_refl _)⟩
          rw [HGE.out, HRI.out]; rfl
        | true =>
          go_wp2_with fail
          (try simp only [Exit.inBlock, Exit.then])
          refine bodyPost_ret (in_results rfl _ _ w.heap.size rfl (in_set4 o low 0 (nth b (p + 1)) r4)) rfl ?_
          refine ⟨?_, in_bel HB6.out (Nat.le_refl _)⟩
          rw [HGE.out, HRI.out]; rfl
    ·
      obtain ⟨r4, r7, r8⟩ := HG.out
      have z0 := r4.cell (show 0 < 4 by omega)
      have z1 := r4.cell (show 1 < 4 by omega)
      have z2 := r4.cell (show 2 < 4 by omega)
      have z3 := r4.cell (show 3 < 4 by omega)
      dsimp only [inF] at z0 z1 z2 z3
      have c0 := r7.cell (show 0 < 4 by omega)
      have c1 := r7.cell (show 1 < 4 by omega)
      have c2 := r7.cell (show 2 < 4 by omega)
      have c3 := r7.cell (show 3 < 4 by omega)
      dsimp only [inF] at c0 c1 c2 c3
      have y0 := r4.frozen 0
      have y1 := r4.frozen 1
      have y2 := r4.frozen 2
      have y3 := r4.frozen 3
      have v0 := r7.frozen 0
      have v1 := r7.frozen 1
      have v2 := r7.frozen 2
      have v3 := r7.frozen 3
      have s0 := r8.cell (show 0 < 7 by omega)
      have s1 := r8.cell (show 1 < 7 by omega)
      have s2 := r8.cell (show 2 < 7 by omega)
      have s3 := r8.cell (show 3 < 7 by omega)
      have s4 := r8.cell (show 4 < 7 by omega)
      have s5 := r8.cell (show 5 < 7 by omega)
      have s6 := r8.cell (show 6 < 7 by omega)
      dsimp only [shF] at s0 s1 s2 s3 s4 s5 s6
      by_cases hl : (6 : Int) < (low : Int)
      · have HL : Hid (BadX ⟨true, 6, false, false, false, false, false⟩ low) := ⟨rfl, .inr hl⟩
        go_wp2_with fail
        (try simp only [Exit.inBlock, Exit.then])
        refine bodyPost_ret (in_results rfl _ _ w.heap.size rfl (in_set4 0 0 0 0 r4)) rfl ?_
        refine ⟨?_, in_bel HBC.out (Nat.le_refl _)⟩
        rw [getR_bad HO.out HLO.out HX.out HL.out]; rfl
      have HL : Hid (¬ BadX ⟨true, 6, false, false, false, false, false⟩ low) := fun h => h.2.elim (fun h => by cases h) (fun h => hl h)
      have HM := Lib.hid (fun W => more_any o HO8.out low 0 0 W)
      rw [show moreI ⟨o, low, 0, 0⟩ = 0 by unfold moreI; rw [HX.out]; rfl] at HM
      unfold insV at HM
      go_wp2_with fail
      have hq7 := in_setD (low : Int) r7
      have hbq : Below w.heap.size w (wc.setCell ⟨w.heap.size + 1, 1, none⟩ (.int .i64 low)) := HBC.out.setCell (p := ⟨w.heap.size + 1, 1, none⟩) (Nat.le_succ _) _
      have hq4 := row_oth r4 (show w.heap.size ≠ w.heap.size + 1 by omega) 1 (.int .i64 low)
      have hq8 := row_oth r8 HG8.out 1 (.int .i64 low)
      refine (HM.out _).mono ?_
      rintro e w5 ⟨rfl, hb5⟩
      have HB5 := Lib.hid (hbq.trans (hb5.mono hbq.size))
      clear z0 z1 z2 z3 c0 c1 c2 c3 y0 y1 y2 y3 v0 v1 v2 v3 s0 s1 s2 s3 s4 s5 s6 r4 r7 r8
      clear HG
      have HG := Lib.hid (And.intro (below_row hb5 hq4 hq4.lt) (And.intro (below_row hb5 hq7 hq7.lt) (below_row hb5 hq8 hq8.lt)))
      clear hq7 hbq hq4 hq8 hb5 HM HBC
      have hp16 : p < 65536 := by have := HF.out; omega
      obtain ⟨r4, r7, r8⟩ := HG.out
      have z0 := r4.cell (show 0 < 4 by omega)
      have z1 := r4.cell (show 1 < 4 by omega)
      have z2 := r4.cell (show 2 < 4 by omega)
      have z3 := r4.cell (show 3 < 4 by omega)
      dsimp only [inF] at z0 z1 z2 z3
      have c0 := r7.cell (show 0 < 4 by omega)
      have c1 := r7.cell (show 1 < 4 by omega)
      have c2 := r7.cell (show 2 < 4 by omega)
      have c3 := r7.cell (show 3 < 4 by omega)
      dsimp only [inF] at c0 c1 c2 c3
      have y0 := r4.frozen 0
      have y1 := r4.frozen 1
      have y2 := r4.frozen 2
      have y3 := r4.frozen 3
      have v0 := r7.frozen 0
      have v1 := r7.frozen 1
      have v2 := r7.frozen 2
      have v3 := r7.frozen 3
      have s0 := r8.cell (show 0 < 7 by omega)
      have s1 := r8.cell (show 1 < 7 by omega)
      have s2 := r8.cell (show 2 < 7 by omega)
      have s3 := r8.cell (show 3 < 7 by omega)
      have s4 := r8.cell (show 4 < 7 by omega)
      have s5 := r8.cell (show 5 < 7 by omega)
      have s6 := r8.cell (show 6 < 7 by omega)
      dsimp only [shF] at s0 s1 s2 s3 s4 s5 s6
      clear hl
      have hsh : ¬ b.length < p + 1 + 0 := by have := HF.out; omega
      have HMX : Hid (moreX (⟨true, 6, false, false, false, false, false⟩ : Shp) (if (⟨true, 6, false, false, false, false, false⟩ : Shp).operand then (low : Int) else 0) = 0) := rfl
      have HGE : Hid (getR b p = if rightI o low 0 0 then (⟨o, low, 0, 0⟩, p + 1 + 0, 0) else (i0, 0, 110)) := getR_ok HO.out HLO.out HX.out HL.out (m := 0) HMX.out hsh (by first | rfl | simp) (by first | rfl | (unfold getS; simp)) (by first | rfl | exact HZ8.out | (unfold getN; simp))
      have HSH := Lib.hid hsh
      clear hsh
      have i2 : ¬ (b.length : Int) < (p : Int) + 1 := by have := HF.out; omega
      have hq4 := r4
      have hq7 := r7
      have hq8 := r8
      have hbq := HB5.out
      go_wp2_with fail
      refine (right_any o HO8.out low 0 0 _).mono ?_
      rintro e w6 ⟨rfl, hb6⟩
      have HB6 := Lib.hid (hbq.trans (hb6.mono hbq.size))
      clear z0 z1 z2 z3 c0 c1 c2 c3 y0 y1 y2 y3 v0 v1 v2 v3 s0 s1 s2 s3 s4 s5 s6 r4 r7 r8
      clear HG HB5
      have HG := Lib.hid (And.intro (below_row hb6 hq4 hq4.lt) (And.intro (below_row hb6 hq7 hq7.lt) (below_row hb6 hq8 hq8.lt)))
      clear hq7 hbq hq4 hq8 hb6
      obtain ⟨r4, r7, r8⟩ := HG.out
      have z0 := r4.cell (show 0 < 4 by omega)
      have z1 := r4.cell (show 1 < 4 by omega)
      have z2 := r4.cell (show 2 < 4 by omega)
      have z3 := r4.cell (show 3 < 4 by omega)
      dsimp only [inF] at z0 z1 z2 z3
      have c0 := r7.cell (show 0 < 4 by omega)
      have c1 := r7.cell (show 1 < 4 by omega)
      have c2 := r7.cell (show 2 < 4 by omega)
      have c3 := r7.cell (show 3 < 4 by omega)
      dsimp only [inF] at c0 c1 c2 c3
      have y0 := r4.frozen 0
      have y1 := r4.frozen 1
      have y2 := r4.frozen 2
      have y3 := r4.frozen 3
      have v0 := r7.frozen 0
      have v1 := r7.frozen 1
      have v2 := r7.frozen 2
      have v3 := r7.frozen 3
      have s0 := r8.cell (show 0 < 7 by omega)
      have s1 := r8.cell (show 1 < 7 by omega)
      have s2 := r8.cell (show 2 < 7 by omega)
      have s3 := r8.cell (show 3 < 7 by omega)
      have s4 := r8.cell (show 4 < 7 by omega)
      have s5 := r8.cell (show 5 < 7 by omega)
      have s6 := r8.cell (show 6 < 7 by omega)
      dsimp only [shF] at s0 s1 s2 s3 s4 s5 s6
      obtain ⟨ri, hri⟩ : ∃ ri, rightI o low 0 0 = ri := ⟨_, rfl⟩
      rw [hri]
      have HRI := Lib.hid hri
      clear hri
      cases ri with
      | false =>
        go_wp2_with fail
        (try simp only [Exit.inBlock, Exit.then])
        refine bodyPost_ret (in_results rfl _ _ w.heap.size rfl (in_set4 0 0 0 0 r4)) rfl ?_
        refine ⟨?_, in_bel HB6.out (Nat.le_refl _)⟩
        rw [HGE.out, HRI.out]; rfl
      | true =>
        go_wp2_with fail
        (try simp only [Exit.inBlock, Exit.then])
        refine bodyPost_ret (in_results rfl _ _ w.heap.size rfl (in_set4 o low 0 0 r4)) rfl ?_
        refine ⟨?_, in_bel HB6.out (Nat.le_refl _)⟩
        rw [HGE.out, HRI.out]; rfl
    ·
      obtain ⟨r4, r7, r8⟩ := HG.out
      have z0 := r4.cell (show 0 < 4 by omega)
      have z1 := r4.cell (show 1 < 4 by omega)
      have z2 := r4.cell (show 2 < 4 by omega)
      have z3 := r4.cell (show 3 < 4 by omega)
      dsimp only [inF] at z0 z1 z2 z3
      have c0 := r7.cell (show 0 < 4 by omega)
      have c1 := r7.cell (show 1 < 4 by omega)
      have c2 := r7.cell (show 2 < 4 by omega)
      have c3 := r7.cell (show 3 < 4 by omega)
      dsimp only [inF] at c0 c1 c2 c3
      have y0 := r4.frozen 0
      have y1 := r4.frozen 1
      have y2 := r4.frozen 2
      have y3 := r4.frozen 3
      have v0 := r7.frozen 0
      have v1 := r7.frozen 1
      have v2 := r7.frozen 2
      have v3 := r7.frozen 3
      have s0 := r8.cell (show 0 < 7 by omega)
      have s1 := r8.cell (show 1 < 7 by omega)
      have s2 := r8.cell (show 2 < 7 by omega)
      have s3 := r8.cell (show 3 < 7 by omega)
      have s4 := r8.cell (show 4 < 7 by omega)
      have s5 := r8.cell (show 5 < 7 by omega)
      have s6 := r8.cell (show 6 < 7 by omega)
      dsimp only [shF] at s0 s1 s2 s3 s4 s5 s6
      have HL : Hid (¬ BadX ⟨true, -1, false, true, false, false, false⟩ low) := fun h => by cases h.1
      by_cases h7 : low = 7
      ·
        have H7x : Hid ((low : Int) = 7) := by unfold Hid; omega
        clear h7
        have HM := Lib.hid (fun W => more_any o HO8.out 0 low 0 W)
        rw [show moreI ⟨o, 0, low, 0⟩ = 1 by unfold moreI; rw [HX.out]; (unfold moreX; dsimp only; rw [decide_eq_true H7x.out]; rfl)] at HM
        unfold insV at HM
        go_wp2_with fail
        have hq7 := in_setS (low : Int) r7
        have hbq : Below w.heap.size w (wc.setCell ⟨w.heap.size + 1, 2, none⟩ (.int .i64 low)) := HBC.out.setCell (p := ⟨w.heap.size + 1, 2, none⟩) (Nat.le_succ _) _
        have hq4 := row_oth r4 (show w.heap.size ≠ w.heap.size + 1 by omega) 2 (.int .i64 low)
        have hq8 := row_oth r8 HG8.out 2 (.int .i64 low)
        refine (HM.out _).mono ?_
        rintro e w5 ⟨rfl, hb5⟩
        have HB5 := Lib.hid (hbq.trans (hb5.mono hbq.size))
        clear z0 z1 z2 z3 c0 c1 c2 c3 y0 y1 y2 y3 v0 v1 v2 v3 s0 s1 s2 s3 s4 s5 s6 r4 r7 r8
        clear HG
        have HG := Lib.hid (And.intro (below_row hb5 hq4 hq4.lt) (And.intro (below_row hb5 hq7 hq7.lt) (below_row hb5 hq8 hq8.lt)))
        clear hq7 hbq hq4 hq8 hb5 HM HBC
        have hp16 : p < 65536 := by have := HF.out; omega
        obtain ⟨r4, r7, r8⟩ := HG.out
        have z0 := r4.cell (show 0 < 4 by omega)
        have z1 := r4.cell (show 1 < 4 by omega)
        have z2 := r4.cell (show 2 < 4 by omega)
        have z3 := r4.cell (show 3 < 4 by omega)
        dsimp only [inF] at z0 z1 z2 z3
        have c0 := r7.cell (show 0 < 4 by omega)
        have c1 := r7.cell (show 1 < 4 by omega)
        have c2 := r7.cell (show 2 < 4 by omega)
        have c3 := r7.cell (show 3 < 4 by omega)
        dsimp only [inF] at c0 c1 c2 c3
        have y0 := r4.frozen 0
        have y1 := r4.frozen 1
        have y2 := r4.frozen 2
        have y3 := r4.frozen 3
        have v0 := r7.frozen 0
        have v1 := r7.frozen 1
        have v2 := r7.frozen 2
        have v3 := r7.frozen 3
        have s0 := r8.cell (show 0 < 7 by omega)
        have s1 := r8.cell (show 1 < 7 by omega)
        have s2 := r8.cell (show 2 < 7 by omega)
        have s3 := r8.cell (show 3 < 7 by omega)
        have s4 := r8.cell (show 4 < 7 by omega)
        have s5 := r8.cell (show 5 < 7 by omega)
        have s6 := r8.cell (show 6 < 7 by omega)
        dsimp only [shF] at s0 s1 s2 s3 s4 s5 s6
        have HMX : Hid (moreX (⟨true, -1, false, true, false, false, false⟩ : Shp) (if (⟨true, -1, false, true, false, false, false⟩ : Shp).operand then (low : Int) else 0) = 1) := by unfold moreX; dsimp only; rw [if_pos rfl, decide_eq_true H7x.out]; rfl
        by_cases hsh : b.length < p + 1 + 1
        ·
          have i2 : (b.length : Int) < (p : Int) + 1 + 1 := by omega
          have HSH := Lib.hid hsh
          clear hsh
          go_wp2_with fail
          (try simp only [Exit.inBlock, Exit.then])
          refine bodyPost_ret (in_results rfl _ _ w.heap.size rfl (in_set4 0 0 0 0 r4)) rfl ?_
          refine ⟨?_, in_bel HB5.out (Nat.le_refl _)⟩
          rw [getR_short HO.out HLO.out HX.out HL.out (m := 1) HMX.out HSH.out]; rfl
        ·
          have i2 : ¬ (b.length : Int) < (p : Int) + 1 + 1 := by omega
          have b5 : (0 : Int) ≤ (p : Int) + 1 := by omega
          have b6 : (p : Int) + 1 < (b.length : Int) := by omega
          have hq1 := nth_lt HR.out.1.1 (p + 1)
          have hc5 : w5.cell? ⟨g0, o0 + (p + 1), none⟩ = some (.int .u8 (nth b (p + 1))) := (HB5.out.cell HR.out.2.1).trans (HR.out.2.2 (p + 1) (by omega))
          have HQ1 : Hid (nth b (p + 1) = b.getD (p + 1) 0) := rfl
          have HGE : Hid (getR b p = if rightI o 0 low (nth b (p + 1)) then (⟨o, 0, low, (nth b (p + 1))⟩, p + 1 + 1, 0) else (i0, 0, 110)) := getR_ok HO.out HLO.out HX.out HL.out (m := 1) HMX.out hsh (by first | rfl | simp) (by first | rfl | (unfold getS; simp)) (by first | rfl | exact HZ8.out | (unfold getN; simp))
          have HSH := Lib.hid hsh
          clear hsh
          have hq7 := in_setN ((nth b (p + 1)) : Int) r7
          have hbq : Below w.heap.size w (w5.setCell ⟨w.heap.size + 1, 3, none⟩ (.int .i64 (nth b (p + 1)))) := HB5.out.setCell (p := ⟨w.heap.size + 1, 3, none⟩) (Nat.le_succ _) _
          have hq4 := row_oth r4 (show w.heap.size ≠ w.heap.size + 1 by omega) 3 (.int .i64 (nth b (p + 1)))
          have hq8 := row_oth r8 HG8.out 3 (.int .i64 (nth b (p + 1)))
          go_wp2_with fail
          refine (right_any o HO8.out 0 low (nth b (p + 1)) _).mono ?_
          rintro e w6 ⟨rfl, hb6⟩
          have HB6 := Lib.hid (hbq.trans (hb6.mono hbq.size))
          clear z0 z1 z2 z3 c0 c1 c2 c3 y0 y1 y2 y3 v0 v1 v2 v3 s0 s1 s2 s3 s4 s5 s6 r4 r7 r8
          clear HG HB5
          have HG := Lib.hid (And.intro (below_row hb6 hq4 hq4.lt) (And.intro (below_row hb6 hq7 hq7.lt) (below_row hb6 hq8 hq8.lt)))
          clear hq7 hbq hq4 hq8 hb6
          obtain ⟨r4, r7, r8⟩ := HG.out
          have z0 := r4.cell (show 0 < 4 by omega)
          have z1 := r4.cell (show 1 < 4 by omega)
          have z2 := r4.cell (show 2 < 4 by omega)
          have z3 := r4.cell (show 3 < 4 by omega)
          dsimp only [inF] at z0 z1 z2 z3
          have c0 := r7.cell (show 0 < 4 by omega)
          have c1 := r7.cell (show 1 < 4 by omega)
          have c2 := r7.cell (show 2 < 4 by omega)
          have c3 := r7.cell (show 3 < 4 by omega)
          dsimp only [inF] at c0 c1 c2 c3
          have y0 := r4.frozen 0
          have y1 := r4.frozen 1
          have y2 := r4.frozen 2
          have y3 := r4.frozen 3
          have v0 := r7.frozen 0
          have v1 := r7.frozen 1
          have v2 := r7.frozen 2
          have v3 := r7.frozen 3
          have s0 := r8.cell (show 0 < 7 by omega)
          have s1 := r8.cell (show 1 < 7 by omega)
          have s2 := r8.cell (show 2 < 7 by omega)
          have s3 := r8.cell (show 3 < 7 by omega)
          have s4 := r8.cell (show 4 < 7 by omega)
          have s5 := r8.cell (show 5 < 7 by omega)
          have s6 := r8.cell (show 6 < 7 by omega)
          dsimp only [shF] at s0 s1 s2 s3 s4 s5 s6
          obtain ⟨ri, hri⟩ : ∃ ri, rightI o 0 low (nth b (p + 1)) = ri := ⟨_, rfl⟩
          rw [hri]
          have HRI := Lib.hid hri
          clear hri
          cases ri with
          | false =>
            go_wp2_with fail
            (try simp only [Exit.inBlock, Exit.then])
            refine bodyPost_ret (in_results rfl _ _ w.heap.size rfl (in_set4 0 0 0 0 r4)) rfl ?_
            refine ⟨?_, in_bel HB6.out (Nat.le_refl _)⟩
            rw [HGE.out, HRI.out]; rfl
          | true =>
            go_wp2_with fail
            (try simp only [Exit.inBlock, Exit.then])
            refine bodyPost_ret (in_results rfl _ _ w.heap.size rfl (in_set4 o 0 low (nth b (p + 1)) r4)) rfl ?_
            refine ⟨?_, in_bel HB6.out (Nat.le_refl _)⟩
            rw [HGE.out, HRI.out]; rfl
      ·
        have H7x : Hid (¬ (low : Int) = 7) := by unfold Hid; omega
        clear h7
        have HM := Lib.hid (fun W => more_any o HO8.out 0 low 0 W)
        rw [show moreI ⟨o, 0, low, 0⟩ = 0 by unfold moreI; rw [HX.out]; (unfold moreX; dsimp only; rw [decide_eq_false H7x.out]; rfl)] at HM
        unfold insV at HM
        go_wp2_with fail
        have hq7 := in_setS (low : Int) r7
        have hbq : Below w.heap.size w (wc.setCell ⟨w.heap.size + 1, 2, none⟩ (.int .i64 low)) := HBC.out.setCell (p := ⟨w.heap.size + 1, 2, none⟩) (Nat.le_succ _) _
        have hq4 := row_oth r4 (show w.heap.size ≠ w.heap.size + 1 by omega) 2 (.int .i64 low)
        have hq8 := row_oth r8 HG8.out 2 (.int .i64 low)
        refine (HM.out _).mono ?_
        rintro e w5 ⟨rfl, hb5⟩
        have HB5 := Lib.hid (hbq.trans (hb5.mono hbq.size))
        clear z0 z1 z2 z3 c0 c1 c2 c3 y0 y1 y2 y3 v0 v1 v2 v3 s0 s1 s2 s3 s4 s5 s6 r4 r7 r8
        clear HG
        have HG := Lib.hid (And.intro (below_row hb5 hq4 hq4.lt) (And.intro (below_row hb5 hq7 hq7.lt) (below_row hb5 hq8 hq8.lt)))
        clear hq7 hbq hq4 hq8 hb5 HM HBC
        have hp16 : p < 65536 := by have := HF.out; omega
        obtain ⟨r4, r7, r8⟩ := HG.out
        have z0 := r4.cell (show 0 < 4 by omega)
        have z1 := r4.cell (show 1 < 4 by omega)
        have z2 := r4.cell (show 2 < 4 by omega)
        have z3 := r4.cell (show 3 < 4 by omega)
        dsimp only [inF] at z0 z1 z2 z3
        have c0 := r7.cell (show 0 < 4 by omega)
        have c1 := r7.cell (show 1 < 4 by omega)
        have c2 := r7.cell (show 2 < 4 by omega)
        have c3 := r7.cell (show 3 < 4 by omega)
        dsimp only [inF] at c0 c1 c2 c3
        have y0 := r4.frozen 0
        have y1 := r4.frozen 1
        have y2 := r4.frozen 2
        have y3 := r4.frozen 3
        have v0 := r7.frozen 0
        have v1 := r7.frozen 1
        have v2 := r7.frozen 2
        have v3 := r7.frozen 3
        have s0 := r8.cell (show 0 < 7 by omega)
        have s1 := r8.cell (show 1 < 7 by omega)
        have s2 := r8.cell (show 2 < 7 by omega)
        have s3 := r8.cell (show 3 < 7 by omega)
        have s4 := r8.cell (show 4 < 7 by omega)
        have s5 := r8.cell (show 5 < 7 by omega)
        have s6 := r8.cell (show 6 < 7 by omega)
        dsimp only [shF] at s0 s1 s2 s3 s4 s5 s6
        have hsh : ¬ b.length < p + 1 + 0 := by have := HF.out; omega
        have HMX : Hid (moreX (⟨true, -1, false, true, false, false, false⟩ : Shp) (if (⟨true, -1, false, true, false, false, false⟩ : Shp).operand then (low : Int) else 0) = 0) := by unfold moreX; dsimp only; rw [if_pos rfl, decide_eq_false H7x.out]; rfl
        have HGE : Hid (getR b p = if rightI o 0 low 0 then (⟨o, 0, low, 0⟩, p + 1 + 0, 0) else (i0, 0, 110)) := getR_ok HO.out HLO.out HX.out HL.out (m := 0) HMX.out hsh (by first | rfl | simp) (by first | rfl | (unfold getS; simp)) (by first | rfl | exact HZ8.out | (unfold getN; simp))
        have HSH := Lib.hid hsh
        clear hsh
        have i2 : ¬ (b.length : Int) < (p : Int) + 1 := by have := HF.out; omega
        have hq4 := r4
        have hq7 := r7
        have hq8 := r8
        have hbq := HB5.out
        go_wp2_with fail
        refine (right_any o HO8.out 0 low 0 _).mono ?_
        rintro e w6 ⟨rfl, hb6⟩
        have HB6 := Lib.hid (hbq.trans (hb6.mono hbq.size))
        clear z0 z1 z2 z3 c0 c1 c2 c3 y0 y1 y2 y3 v0 v1 v2 v3 s0 s1 s2 s3 s4 s5 s6 r4 r7 r8
        clear HG HB5
        have HG := Lib.hid (And.intro (below_row hb6 hq4 hq4.lt) (And.intro (below_row hb6 hq7 hq7.lt) (below_row hb6 hq8 hq8.lt)))
        clear hq7 hbq hq4 hq8 hb6
        obtain ⟨r4, r7, r8⟩ := HG.out
        have z0 := r4.cell (show 0 < 4 by omega)
        have z1 := r4.cell (show 1 < 4 by omega)
        have z2 := r4.cell (show 2 < 4 by omega)
        have z3 := r4.cell (show 3 < 4 by omega)
        dsimp only [inF] at z0 z1 z2 z3
        have c0 := r7.cell (show 0 < 4 by omega)
        have c1 := r7.cell (show 1 < 4 by omega)
        have c2 := r7.cell (show 2 < 4 by omega)
        have c3 := r7.cell (show 3 < 4 by omega)
        dsimp only [inF] at c0 c1 c2 c3
        have y0 := r4.frozen 0
        have y1 := r4.frozen 1
        have y2 := r4.frozen 2
        have y3 := r4.frozen 3
        have v0 := r7.frozen 0
        have v1 := r7.frozen 1
        have v2 := r7.frozen 2
        have v3 := r7.frozen 3
        have s0 := r8.cell (show 0 < 7 by omega)
        have s1 := r8.cell (show 1 < 7 by omega)
        have s2 := r8.cell (show 2 < 7 by omega)
        have s3 := r8.cell (show 3 < 7 by omega)
        have s4 := r8.cell (show 4 < 7 by omega)
        have s5 := r8.cell (show 5 < 7 by omega)
        have s6 := r8.cell (show 6 < 7 by omega)
        dsimp only [shF] at s0 s1 s2 s3 s4 s5 s6
        obtain ⟨ri, hri⟩ : ∃ ri, rightI o 0 low 0 = ri := ⟨_, rfl⟩
        rw [hri]
        have HRI := Lib.hid hri
        clear hri
        cases ri with
        | false =>
          go_wp2_with fail
          (try simp only [Exit.inBlock, Exit.then])
          refine bodyPost_ret (in_results rfl _ _ w.heap.size rfl (in_set4 0 0 0 0 r4)) rfl ?_
          refine ⟨?_, in_bel HB6.out (Nat.le_refl _)⟩
          rw [HGE.out, HRI.out]; rfl
        | true =>
          go_wp2_with fail
          (try simp only [Exit.inBlock, Exit.then])
          refine bodyPost_ret (in_results rfl _ _ w.heap.size rfl (in_set4 o 0 low 0 r4)) rfl ?_
          refine ⟨?_, in_bel HB6.out (Nat.le_refl _)⟩
          rw [HGE.out, HRI.out]; rfl
    ·
      obtain ⟨r4, r7, r8⟩ := HG.out
      have z0 := r4.cell (show 0 < 4 by omega)
      have z1 := r4.cell (show 1 < 4 by omega)
      have z2 := r4.cell (show 2 < 4 by omega)
      have z3 := r4.cell (show 3 < 4 by omega)
      dsimp only [inF] at z0 z1 z2 z3
      have c0 := r7.cell (show 0 < 4 by omega)
      have c1 := r7.cell (show 1 < 4 by omega)
      have c2 := r7.cell (show 2 < 4 by omega)
      have c3 := r7.cell (show 3 < 4 by omega)
      dsimp only [inF] at c0 c1 c2 c3
      have y0 := r4.frozen 0
      have y1 := r4.frozen 1
      have y2 := r4.frozen 2
      have y3 := r4.frozen 3
      have v0 := r7.frozen 0
      have v1 := r7.frozen 1
      have v2 := r7.frozen 2
      have v3 := r7.frozen 3
      have s0 := r8.cell (show 0 < 7 by omega)
      have s1 := r8.cell (show 1 < 7 by omega)
      have s2 := r8.cell (show 2 < 7 by omega)
      have s3 := r8.cell (show 3 < 7 by omega)
      have s4 := r8.cell (show 4 < 7 by omega)
      have s5 := r8.cell (show 5 < 7 by omega)
      have s6 := r8.cell (show 6 < 7 by omega)
      dsimp only [shF] at s0 s1 s2 s3 s4 s5 s6
      by_cases hl : (3 : Int) < (low : Int)
      · have HL : Hid (BadX ⟨true, 3, false, false, true, false, false⟩ low) := ⟨rfl, .inr hl⟩
        go_wp2_with fail
        (try simp only [Exit.inBlock, Exit.then])
        refine bodyPost_ret (in_results rfl _ _ w.heap.size rfl (in_set4 0 0 0 0 r4)) rfl ?_
        refine ⟨?_, in_bel HBC.out (Nat.le_refl _)⟩
        rw [getR_bad HO.out HLO.out HX.out HL.out]; rfl
      have HL : Hid (¬ BadX ⟨true, 3, false, false, true, false, false⟩ low) := fun h => h.2.elim (fun h => by cases h) (fun h => hl h)
      have HM := Lib.hid (fun W => more_any o HO8.out low 0 0 W)
      rw [show moreI ⟨o, low, 0, 0⟩ = 1 by unfold moreI; rw [HX.out]; rfl] at HM
      unfold insV at HM
      go_wp2_with fail
      have hq7 := in_setD (low : Int) r7
      have hbq : Below w.heap.size w (wc.setCell ⟨w.heap.size + 1, 1, none⟩ (.int .i64 low)) := HBC.out.setCell (p := ⟨w.heap.size + 1, 1, none⟩) (Nat.le_succ _) _
      have hq4 := row_oth r4 (show w.heap.size ≠ w.heap.size + 1 by omega) 1 (.int .i64 low)
      have hq8 := row_oth r8 HG8.out 1 (.int .i64 low)
      refine (HM.out _).mono ?_
      rintro e w5 ⟨rfl, hb5⟩
      have HB5 := Lib.hid (hbq.trans (hb5.mono hbq.size))
      clear z0 z1 z2 z3 c0 c1 c2 c3 y0 y1 y2 y3 v0 v1 v2 v3 s0 s1 s2 s3 s4 s5 s6 r4 r7 r8
      clear HG
      have HG := Lib.hid (And.intro (below_row hb5 hq4 hq4.lt) (And.intro (below_row hb5 hq7 hq7.lt) (below_row hb5 hq8 hq8.lt)))
      clear hq7 hbq hq4 hq8 hb5 HM HBC
      have hp16 : p < 65536 := by have := HF.out; omega
      obtain ⟨r4, r7, r8⟩ := HG.out
      have z0 := r4.cell (show 0 < 4 by omega)
      have z1 := r4.cell (show 1 < 4 by omega)
      have z2 := r4.cell (show 2 < 4 by omega)
      have z3 := r4.cell (show 3 < 4 by omega)
      dsimp only [inF] at z0 z1 z2 z3
      have c0 := r7.cell (show 0 < 4 by omega)
      have c1 := r7.cell (show 1 < 4 by omega)
      have c2 := r7.cell (show 2 < 4 by omega)
      have c3 := r7.cell (show 3 < 4 by omega)
      dsimp only [inF] at c0 c1 c2 c3
      have y0 := r4.frozen 0
      have y1 := r4.frozen 1
      have y2 := r4.frozen 2
      have y3 := r4.frozen 3
      have v0 := r7.frozen 0
      have v1 := r7.frozen 1
      have v2 := r7.frozen 2
      have v3 := r7.frozen 3
      have s0 := r8.cell (show 0 < 7 by omega)
      have s1 := r8.cell (show 1 < 7 by omega)
      have s2 := r8.cell (show 2 < 7 by omega)
      have s3 := r8.cell (show 3 < 7 by omega)
      have s4 := r8.cell (show 4 < 7 by omega)
      have s5 := r8.cell (show 5 < 7 by omega)
      have s6 := r8.cell (show 6 < 7 by omega)
      dsimp only [shF] at s0 s1 s2 s3 s4 s5 s6
      clear hl
      have HMX : Hid (moreX (⟨true, 3, false, false, true, false, false⟩ : Shp) (if (⟨true, 3, false, false, true, false, false⟩ : Shp).operand then (low : Int) else 0) = 1) := rfl
      by_cases hsh : b.length < p + 1 + 1
      ·
        have i2 : (b.length : Int) < (p : Int) + 1 + 1 := by omega
        have HSH := Lib.hid hsh
        clear hsh
        go_wp2_with fail
        (try simp only [Exit.inBlock, Exit.then])
        refine bodyPost_ret (in_results rfl _ _ w.heap.size rfl (in_set4 0 0 0 0 r4)) rfl ?_
        refine ⟨?_, in_bel HB5.out (Nat.le_refl _)⟩
        rw [getR_short HO.out HLO.out HX.out HL.out (m := 1) HMX.out HSH.out]; rfl
      ·
        have i2 : ¬ (b.length : Int) < (p : Int) + 1 + 1 := by omega
        have b5 : (0 : Int) ≤ (p : Int) + 1 := by omega
        have b6 : (p : Int) + 1 < (b.length : Int) := by omega
        have hq1 := nth_lt HR.out.1.1 (p + 1)
        have hc5 : w5.cell? ⟨g0, o0 + (p + 1), none⟩ = some (.int .u8 (nth b (p + 1))) := (HB5.out.cell HR.out.2.1).trans (HR.out.2.2 (p + 1) (by omega))
        have HQ1 : Hid (nth b (p + 1) = b.getD (p + 1) 0) := rfl
        have HGE : Hid (getR b p = if rightI o low 0 (nth b (p + 1)) then (⟨o, low, 0, (nth b (p + 1))⟩, p + 1 + 1, 0) else (i0, 0, 110)) := getR_ok HO.out HLO.out HX.out HL.out (m := 1) HMX.out hsh (by first | rfl | simp) (by first | rfl | (unfold getS; simp)) (by first | rfl | exact HZ8.out | (unfold getN; simp))
        have HSH := Lib.hid hsh
        clear hsh
        have hq7 := in_setN ((nth b (p + 1)) : Int) r7
        have hbq : Below w.heap.size w (w5.setCell ⟨w.heap.size + 1, 3, none⟩ (.int .i64 (nth b (p + 1)))) := HB5.out.setCell (p := ⟨w.heap.size + 1, 3, none⟩) (Nat.le_succ _) _
        have hq4 := row_oth r4 (show w.heap.size ≠ w.heap.size + 1 by omega) 3 (.int .i64 (nth b (p + 1)))
        have hq8 := row_oth r8 HG8.out 3 (.int .i64 (nth b (p + 1)))
        go_wp2_with fail
        refine (right_any o HO8.out low 0 (nth b (p + 1)) _).mono ?_
        rintro e w6 ⟨rfl, hb6⟩
        have HB6 := Lib.hid (hbq.trans (hb6.mono hbq.size))
        clear z0 z1 z2 z3 c0 c1 c2 c3 y0 y1 y2 y3 v0 v1 v2 v3 s0 s1 s2 s3 s4 s5 s6 r4 r7 r8
        clear HG HB5
        have HG := Lib.hid (And.intro (below_row hb6 hq4 hq4.lt) (And.intro (below_row hb6 hq7 hq7.lt) (below_row hb6 hq8 hq8.lt)))
        clear hq7 hbq hq4 hq8 hb6
        obtain ⟨r4, r7, r8⟩ := HG.out
        have z0 := r4.cell (show 0 < 4 by omega)
        have z1 := r4.cell (show 1 < 4 by omega)
        have z2 := r4.cell (show 2 < 4 by omega)
        have z3 := r4.cell (show 3 < 4 by omega)
        dsimp only [inF] at z0 z1 z2 z3
        have c0 := r7.cell (show 0 < 4 by omega)
        have c1 := r7.cell (show 1 < 4 by omega)
        have c2 := r7.cell (show 2 < 4 by omega)
        have c3 := r7.cell (show 3 < 4 by omega)
        dsimp only [inF] at c0 c1 c2 c3
        have y0 := r4.frozen 0
        have y1 := r4.frozen 1
        have y2 := r4.frozen 2
        have y3 := r4.frozen 3
        have v0 := r7.frozen 0
        have v1 := r7.frozen 1
        have v2 := r7.frozen 2
        have v3 := r7.frozen 3
        have s0 := r8.cell (show 0 < 7 by omega)
        have s1 := r8.cell (show 1 < 7 by omega)
        have s2 := r8.cell (show 2 < 7 by omega)
        have s3 := r8.cell (show 3 < 7 by omega)
        have s4 := r8.cell (show 4 < 7 by omega)
        have s5 := r8.cell (show 5 < 7 by omega)
        have s6 := r8.cell (show 6 < 7 by omega)
        dsimp only [shF] at s0 s1 s2 s3 s4 s5 s6
        obtain ⟨ri, hri⟩ : ∃ ri, rightI o low 0 (nth b (p + 1)) = ri := ⟨_, rfl⟩
        rw [hri]
        have HRI := Lib.hid hri
        clear hri
        cases ri with
        | false =>
          go_wp2_with fail
          (try simp only [Exit.inBlock, Exit.then])
          refine bodyPost_ret (in_results rfl _ _ w.heap.size rfl (in_set4 0 0 0 0 r4)) rfl ?_
          refine ⟨?_, in_bel HB6.out (Nat.le_refl _)⟩
          rw [HGE.out, HRI.out]; rfl
        | true =>
          go_wp2_with fail
          (try simp only [Exit.inBlock, Exit.then])
          refine bodyPost_ret (in_results rfl _ _ w.heap.size rfl (in_set4 o low 0 (nth b (p + 1)) r4)) rfl ?_
          refine ⟨?_, in_bel HB6.out (Nat.le_refl _)⟩
          rw [HGE.out, HRI.out]; rfl
    ·
      obtain ⟨r4, r7, r8⟩ := HG.out
      have z0 := r4.cell (show 0 < 4 by omega)
      have z1 := r4.cell (show 1 < 4 by omega)
      have z2 := r4.cell (show 2 < 4 by omega)
      have z3 := r4.cell (show 3 < 4 by omega)
      dsimp only [inF] at z0 z1 z2 z3
      have c0 := r7.cell (show 0 < 4 by omega)
      have c1 := r7.cell (show 1 < 4 by omega)
      have c2 := r7.cell (show 2 < 4 by omega)
      have c3 := r7.cell (show 3 < 4 by omega)
      dsimp only [inF] at c0 c1 c2 c3
      have y0 := r4.frozen 0
      have y1 := r4.frozen 1
      have y2 := r4.frozen 2
      have y3 := r4.frozen 3
      have v0 := r7.frozen 0
      have v1 := r7.frozen 1
      have v2 := r7.frozen 2
      have v3 := r7.frozen 3
      have s0 := r8.cell (show 0 < 7 by omega)
      have s1 := r8.cell (show 1 < 7 by omega)
      have s2 := r8.cell (show 2 < 7 by omega)
      have s3 := r8.cell (show 3 < 7 by omega)
      have s4 := r8.cell (show 4 < 7 by omega)
      have s5 := r8.cell (show 5 < 7 by omega)
      have s6 := r8.cell (show 6 < 7 by omega)
      dsimp only [shF] at s0 s1 s2 s3 s4 s5 s6
      by_cases hl : (0 : Int) < (low : Int)
      · have HL : Hid (BadX ⟨true, -1, false, false, true, false, false⟩ low) := ⟨rfl, .inr hl⟩
        go_wp2_with fail
        (try simp only [Exit.inBlock, Exit.then])
        refine bodyPost_ret (in_results rfl _ _ w.heap.size rfl (in_set4 0 0 0 0 r4)) rfl ?_
        refine ⟨?_, in_bel HBC.out (Nat.le_refl _)⟩
        rw [getR_bad HO.out HLO.out HX.out HL.out]; rfl
      have HL : Hid (¬ BadX ⟨true, -1, false, false, true, false, false⟩ low) := fun h => h.2.elim (fun h => by cases h) (fun h => hl h)
      have HM := Lib.hid (fun W => more_any o HO8.out low 0 0 W)
      rw [show moreI ⟨o, low, 0, 0⟩ = 1 by unfold moreI; rw [HX.out]; rfl] at HM
      unfold insV at HM
      go_wp2_with fail
      have hq7 := in_setD (low : Int) r7
      have hbq : Below w.heap.size w (wc.setCell ⟨w.heap.size + 1, 1, none⟩ (.int .i64 low)) := HBC.out.setCell (p := ⟨w.heap.size + 1, 1, none⟩) (Nat.le_succ _) _
      have hq4 := row_oth r4 (show w.heap.size ≠ w.heap.size + 1 by omega) 1 (.int .i64 low)
      have hq8 := row_oth r8 HG8.out 1 (.int .i64 low)
      refine (HM.out _).mono ?_
      rintro e w5 ⟨rfl, hb5⟩
      have HB5 := Lib.hid (hbq.trans (hb5.mono hbq.size))
      clear z0 z1 z2 z3 c0 c1 c2 c3 y0 y1 y2 y3 v0 v1 v2 v3 s0 s1 s2 s3 s4 s5 s6 r4 r7 r8
      clear HG
      have HG := Lib.hid (And.intro (below_row hb5 hq4 hq4.lt) (And.intro (below_row hb5 hq7 hq7.lt) (below_row hb5 hq8 hq8.lt)))
      clear hq7 hbq hq4 hq8 hb5 HM HBC
      have hp16 : p < 65536 := by have := HF.out; omega
      obtain ⟨r4, r7, r8⟩ := HG.out
      have z0 := r4.cell (show 0 < 4 by omega)
      have z1 := r4.cell (show 1 < 4 by omega)
      have z2 := r4.cell (show 2 < 4 by omega)
      have z3 := r4.cell (show 3 < 4 by omega)
      dsimp only [inF] at z0 z1 z2 z3
      have c0 := r7.cell (show 0 < 4 by omega)
      have c1 := r7.cell (show 1 < 4 by omega)
      have c2 := r7.cell (show 2 < 4 by omega)
      have c3 := r7.cell (show 3 < 4 by omega)
      dsimp only [inF] at c0 c1 c2 c3
      have y0 := r4.frozen 0
      have y1 := r4.frozen 1
      have y2 := r4.frozen 2
      have y3 := r4.frozen 3
      have v0 := r7.frozen 0
      have v1 := r7.frozen 1
      have v2 := r7.frozen 2
      have v3 := r7.frozen 3
      have s0 := r8.cell (show 0 < 7 by omega)
      have s1 := r8.cell (show 1 < 7 by omega)
      have s2 := r8.cell (show 2 < 7 by omega)
      have s3 := r8.cell (show 3 < 7 by omega)
      have s4 := r8.cell (show 4 < 7 by omega)
      have s5 := r8.cell (show 5 < 7 by omega)
      have s6 := r8.cell (show 6 < 7 by omega)
      dsimp only [shF] at s0 s1 s2 s3 s4 s5 s6
      clear hl
      have HMX : Hid (moreX (⟨true, -1, false, false, true, false, false⟩ : Shp) (if (⟨true, -1, false, false, true, false, false⟩ : Shp).operand then (low : Int) else 0) = 1) := rfl
      by_cases hsh : b.length < p + 1 + 1
      ·
        have i2 : (b.length : Int) < (p : Int) + 1 + 1 := by omega
        have HSH := Lib.hid hsh
        clear hsh
        go_wp2_with fail
        (try simp only [Exit.inBlock, Exit.then])
        refine bodyPost_ret (in_results rfl _ _ w.heap.size rfl (in_set4 0 0 0 0 r4)) rfl ?_
        refine ⟨?_, in_bel HB5.out (Nat.le_refl _)⟩
        rw [getR_short HO.out HLO.out HX.out HL.out (m := 1) HMX.out HSH.out]; rfl
      ·
        have i2 : ¬ (b.length : Int) < (p : Int) + 1 + 1 := by omega
        have b5 : (0 : Int) ≤ (p : Int) + 1 := by omega
        have b6 : (p : Int) + 1 < (b.length : Int) := by omega
        have hq1 := nth_lt HR.out.1.1 (p + 1)
        have hc5 : w5.cell? ⟨g0, o0 + (p + 1), none⟩ = some (.int .u8 (nth b (p + 1))) := (HB5.out.cell HR.out.2.1).trans (HR.out.2.2 (p + 1) (by omega))
        have HQ1 : Hid (nth b (p + 1) = b.getD (p + 1) 0) := rfl
        have HGE : Hid (getR b p = if rightI o low 0 (nth b (p + 1)) then (⟨o, low, 0, (nth b (p + 1))⟩, p + 1 + 1, 0) else (i0, 0, 110)) := getR_ok HO.out HLO.out HX.out HL.out (m := 1) HMX.out hsh (by first | rfl | simp) (by first | rfl | (unfold getS; simp)) (by first | rfl | exact HZ8.out | (unfold getN; simp))
        have HSH := Lib.hid hsh
        clear hsh
        have hq7 := in_setN ((nth b (p + 1)) : Int) r7
        have hbq : Below w.heap.size w (w5.setCell ⟨w.heap.size + 1, 3, none⟩ (.int .i64 (nth b (p + 1)))) := HB5.out.setCell (p := ⟨w.heap.size + 1, 3, none⟩) (Nat.le_succ _) _
        have hq4 := row_oth r4 (show w.heap.size ≠ w.heap.size + 1 by omega) 3 (.int .i64 (nth b (p + 1)))
        have hq8 := row_oth r8 HG8.out 3 (.int .i64 (nth b (p + 1)))
        go_wp2_with fail
        refine (right_any o HO8.out low 0 (nth b (p + 1)) _).mono ?_
        rintro e w6 ⟨rfl, hb6⟩
        have HB6 := Lib.hid (hbq.trans (hb6.mono hbq.size))
        clear z0 z1 z2 z3 c0 c1 c2 c3 y0 y1 y2 y3 v0 v1 v2 v3 s0 s1 s2 s3 s4 s5 s6 r4 r7 r8
        clear HG HB5
        have HG := Lib.hid (And.intro (below_row hb6 hq4 hq4.lt) (And.intro (below_row hb6 hq7 hq7.lt) (below_row hb6 hq8 hq8.lt)))
        clear hq7 hbq hq4 hq8 hb6
        obtain ⟨r4, r7, r8⟩ := HG.out
        have z0 := r4.cell (show 0 < 4 by omega)
        have z1 := r4.cell (show 1 < 4 by omega)
        have z2 := r4.cell (show 2 < 4 by omega)
        have z3 := r4.cell (show 3 < 4 by omega)
        dsimp only [inF] at z0 z1 z2 z3
        have c0 := r7.cell (show 0 < 4 by omega)
        have c1 := r7.cell (show 1 < 4 by omega)
        have c2 := r7.cell (show 2 < 4 by omega)
        have c3 := r7.cell (show 3 < 4 by omega)
        dsimp only [inF] at c0 c1 c2 c3
        have y0 := r4.frozen 0
        have y1 := r4.frozen 1
        have y2 := r4.frozen 2
        have y3 := r4.frozen 3
        have v0 := r7.frozen 0
        have v1 := r7.frozen 1
        have v2 := r7.frozen 2
        have v3 := r7.frozen 3
        have s0 := r8.cell (show 0 < 7 by omega)
        have s1 := r8.cell (show 1 < 7 by omega)
        have s2 := r8.cell (show 2 < 7 by omega)
        have s3 := r8.cell (show 3 < 7 by omega)
        have s4 := r8.cell (show 4 < 7 by omega)
        have s5 := r8.cell (show 5 < 7 by omega)
        have s6 := r8.cell (show 6 < 7 by omega)
        dsimp only [shF] at s0 s1 s2 s3 s4 s5 s6
        obtain ⟨ri, hri⟩ : ∃ ri, rightI o low 0 (nth b (p + 1)) = ri := ⟨_, rfl⟩
        rw [hri]
        have HRI := Lib.hid hri
        clear hri
        cases ri with
        | false =>
          go_wp2_with fail
          (try simp only [Exit.inBlock, Exit.then])
          refine bodyPost_ret (in_results rfl _ _ w.heap.size rfl (in_set4 0 0 0 0 r4)) rfl ?_
          refine ⟨?_, in_bel HB6.out (Nat.le_refl _)⟩
          rw [HGE.out, HRI.out]; rfl
        | true =>
          go_wp2_with fail
          (try simp only [Exit.inBlock, Exit.then])
          refine bodyPost_ret (in_results rfl _ _ w.heap.size rfl (in_set4 o low 0 (nth b (p + 1)) r4)) rfl ?_
          refine ⟨?_, in_bel HB6.out (Nat.le_refl _)⟩
          rw [HGE.out, HRI.out]; rfl
    ·
      obtain ⟨r4, r7, r8⟩ := HG.out
      have z0 := r4.cell (show 0 < 4 by omega)
      have z1 := r4.cell (show 1 < 4 by omega)
      have z2 := r4.cell (show 2 < 4 by omega)
      have z3 := r4.cell (show 3 < 4 by omega)
      dsimp only [inF] at z0 z1 z2 z3
      have c0 := r7.cell (show 0 < 4 by omega)
      have c1 := r7.cell (show 1 < 4 by omega)
      have c2 := r7.cell (show 2 < 4 by omega)
      have c3 := r7.cell (show 3 < 4 by omega)
      dsimp only [inF] at c0 c1 c2 c3
      have y0 := r4.frozen 0
      have y1 := r4.frozen 1
      have y2 := r4.frozen 2
      have y3 := r4.frozen 3
      have v0 := r7.frozen 0
      have v1 := r7.frozen 1
      have v2 := r7.frozen 2
      have v3 := r7.frozen 3
      have s0 := r8.cell (show 0 < 7 by omega)
      have s1 := r8.cell (show 1 < 7 by omega)
      have s2 := r8.cell (show 2 < 7 by omega)
      have s3 := r8.cell (show 3 < 7 by omega)
      have s4 := r8.cell (show 4 < 7 by omega)
      have s5 := r8.cell (show 5 < 7 by omega)
      have s6 := r8.cell (show 6 < 7 by omega)
      dsimp only [shF] at s0 s1 s2 s3 s4 s5 s6
      by_cases hl : (0 : Int) < (low : Int)
      · have HL : Hid (BadX ⟨true, -1, false, false, false, true, false⟩ low) := ⟨rfl, .inr hl⟩
        go_wp2_with fail
        (try simp only [Exit.inBlock, Exit.then])
        refine bodyPost_ret (in_results rfl _ _ w.heap.size rfl (in_set4 0 0 0 0 r4)) rfl ?_
        refine ⟨?_, in_bel HBC.out (Nat.le_refl _)⟩
        rw [getR_bad HO.out HLO.out HX.out HL.out]; rfl
      have HL : Hid (¬ BadX ⟨true, -1, false, false, false, true, false⟩ low) := fun h => h.2.elim (fun h => by cases h) (fun h => hl h)
      have HM := Lib.hid (fun W => more_any o HO8.out low 0 0 W)
      rw [show moreI ⟨o, low, 0, 0⟩ = 1 by unfold moreI; rw [HX.out]; rfl] at HM
      unfold insV at HM
      go_wp2_with fail
      have hq7 := in_setD (low : Int) r7
      have hbq : Below w.heap.size w (wc.setCell ⟨w.heap.size + 1, 1, none⟩ (.int .i64 low)) := HBC.out.setCell (p := ⟨w.heap.size + 1, 1, none⟩) (Nat.le_succ _) _
      have hq4 := row_oth r4 (show w.heap.size ≠ w.heap.size + 1 by omega) 1 (.int .i64 low)
      have hq8 := row_oth r8 HG8.out 1 (.int .i64 low)
      refine (HM.out _).mono ?_
      rintro e w5 ⟨rfl, hb5⟩
      have HB5 := Lib.hid (hbq.trans (hb5.mono hbq.size))
      clear z0 z1 z2 z3 c0 c1 c2 c3 y0 y1 y2 y3 v0 v1 v2 v3 s0 s1 s2 s3 s4 s5 s6 r4 r7 r8
      clear HG
      have HG := Lib.hid (And.intro (below_row hb5 hq4 hq4.lt) (And.intro (below_row hb5 hq7 hq7.lt) (below_row hb5 hq8 hq8.lt)))
      clear hq7 hbq hq4 hq8 hb5 HM HBC
      have hp16 : p < 65536 := by have := HF.out; omega
      obtain ⟨r4, r7, r8⟩ := HG.out
      have z0 := r4.cell (show 0 < 4 by omega)
      have z1 := r4.cell (show 1 < 4 by omega)
      have z2 := r4.cell (show 2 < 4 by omega)
      have z3 := r4.cell (show 3 < 4 by omega)
      dsimp only [inF] at z0 z1 z2 z3
      have c0 := r7.cell (show 0 < 4 by omega)
      have c1 := r7.cell (show 1 < 4 by omega)
      have c2 := r7.cell (show 2 < 4 by omega)
      have c3 := r7.cell (show 3 < 4 by omega)
      dsimp only [inF] at c0 c1 c2 c3
      have y0 := r4.frozen 0
      have y1 := r4.frozen 1
      have y2 := r4.frozen 2
      have y3 := r4.frozen 3
      have v0 := r7.frozen 0
      have v1 := r7.frozen 1
      have v2 := r7.frozen 2
      have v3 := r7.frozen 3
      have s0 := r8.cell (show 0 < 7 by omega)
      have s1 := r8.cell (show 1 < 7 by omega)
      have s2 := r8.cell (show 2 < 7 by omega)
      have s3 := r8.cell (show 3 < 7 by omega)
      have s4 := r8.cell (show 4 < 7 by omega)
      have s5 := r8.cell (show 5 < 7 by omega)
      have s6 := r8.cell (show 6 < 7 by omega)
      dsimp only [shF] at s0 s1 s2 s3 s4 s5 s6
      clear hl
      have HMX : Hid (moreX (⟨true, -1, false, false, false, true, false⟩ : Shp) (if (⟨true, -1, false, false, false, true, false⟩ : Shp).operand then (low : Int) else 0) = 1) := rfl
      by_cases hsh : b.length < p + 1 + 1
      ·
        have i2 : (b.length : Int) < (p : Int) + 1 + 1 := by omega
        have HSH := Lib.hid hsh
        clear hsh
        go_wp2_with fail
        (try simp only [Exit.inBlock, Exit.then])
        refine bodyPost_ret (in_results rfl _ _ w.heap.size rfl (in_set4 0 0 0 0 r4)) rfl ?_
        refine ⟨?_, in_bel HB5.out (Nat.le_refl _)⟩
        rw [getR_short HO.out HLO.out HX.out HL.out (m := 1) HMX.out HSH.out]; rfl
      ·
        have i2 : ¬ (b.length : Int) < (p : Int) + 1 + 1 := by omega
        have b5 : (0 : Int) ≤ (p : Int) + 1 := by omega
        have b6 : (p : Int) + 1 < (b.length : Int) := by omega
        have hq1 := nth_lt HR.out.1.1 (p + 1)
        have hc5 : w5.cell? ⟨g0, o0 + (p + 1), none⟩ = some (.int .u8 (nth b (p + 1))) := (HB5.out.cell HR.out.2.1).trans (HR.out.2.2 (p + 1) (by omega))
        have HQ1 : Hid (nth b (p + 1) = b.getD (p + 1) 0) := rfl
        obtain ⟨z, hz⟩ : ∃ z, ((p + 1 + 1 : Nat) : Int) + sg8 (nth b (p + 1)) = z := ⟨_, rfl⟩
        have k8 : wrap64 ((p : Int) + 1 + 1 + wrap64 (IntKind.i8.wrap (nth b (p + 1) : Int))) = z := (jmp_n hp16 hq1).trans hz
        have HZ8 := Lib.hid hz
        clear hz
        have HGE : Hid (getR b p = if rightI o low 0 z then (⟨o, low, 0, z⟩, p + 1 + 1, 0) else (i0, 0, 110)) := getR_ok HO.out HLO.out HX.out HL.out (m := 1) HMX.out hsh (by first | rfl | simp) (by first | rfl | (unfold getS; simp)) (by first | rfl | exact HZ8.out | (unfold getN; simp))
        have HSH := Lib.hid hsh
        clear hsh
        have hq7 := in_setN (z : Int) r7
        have hbq : Below w.heap.size w (w5.setCell ⟨w.heap.size + 1, 3, none⟩ (.int .i64 z)) := HB5.out.setCell (p := ⟨w.heap.size + 1, 3, none⟩) (Nat.le_succ _) _
        have hq4 := row_oth r4 (show w.heap.size ≠ w.heap.size + 1 by omega) 3 (.int .i64 z)
        have hq8 := row_oth r8 HG8.out 3 (.int .i64 z)
        go_wp2_with fail
        refine (right_any o HO8.out low 0 z _).mono ?_
        rintro e w6 ⟨rfl, hb6⟩
        have HB6 := Lib.hid (hbq.trans (hb6.mono hbq.size))
        clear z0 z1 z2 z3 c0 c1 c2 c3 y0 y1 y2 y3 v0 v1 v2 v3 s0 s1 s2 s3 s4 s5 s6 r4 r7 r8
        clear HG HB5
        have HG := Lib.hid (And.intro (below_row hb6 hq4 hq4.lt) (And.intro (below_row hb6 hq7 hq7.lt) (below_row hb6 hq8 hq8.lt)))
        clear hq7 hbq hq4 hq8 hb6
        obtain ⟨r4, r7, r8⟩ := HG.out
        have z0 := r4.cell (show 0 < 4 by omega)
        have z1 := r4.cell (show 1 < 4 by omega)
        have z2 := r4.cell (show 2 < 4 by omega)
        have z3 := r4.cell (show 3 < 4 by omega)
        dsimp only [inF] at z0 z1 z2 z3
        have c0 := r7.cell (show 0 < 4 by omega)
        have c1 := r7.cell (show 1 < 4 by omega)
        have c2 := r7.cell (show 2 < 4 by omega)
        have c3 := r7.cell (show 3 < 4 by omega)
        dsimp only [inF] at c0 c1 c2 c3
        have y0 := r4.frozen 0
        have y1 := r4.frozen 1
        have y2 := r4.frozen 2
        have y3 := r4.frozen 3
        have v0 := r7.frozen 0
        have v1 := r7.frozen 1
        have v2 := r7.frozen 2
        have v3 := r7.frozen 3
        have s0 := r8.cell (show 0 < 7 by omega)
        have s1 := r8.cell (show 1 < 7 by omega)
        have s2 := r8.cell (show 2 < 7 by omega)
        have s3 := r8.cell (show 3 < 7 by omega)
        have s4 := r8.cell (show 4 < 7 by omega)
        have s5 := r8.cell (show 5 < 7 by omega)
        have s6 := r8.cell (show 6 < 7 by omega)
        dsimp only [shF] at s0 s1 s2 s3 s4 s5 s6
        obtain ⟨ri, hri⟩ : ∃ ri, rightI o low 0 z = ri := ⟨_, rfl⟩
        rw [hri]
        have HRI := Lib.hid hri
        clear hri
        cases ri with
        | false =>
          go_wp2_with fail
          (try simp only [Exit.inBlock, Exit.then])
          refine bodyPost_ret (in_results rfl _ _ w.heap.size rfl (in_set4 0 0 0 0 r4)) rfl ?_
          refine ⟨?_, in_bel HB6.out (Nat.le_refl _)⟩
          rw [HGE.out, HRI.out]; rfl
        | true =>
          go_wp2_with fail
          (try simp only [Exit.inBlock, Exit.then])
          refine bodyPost_ret (in_results rfl _ _ w.heap.size rfl (in_set4 o low 0 z r4)) rfl ?_
          refine ⟨?_, in_bel HB6.out (Nat.le_refl _)⟩
          rw [HGE.out, HRI.out]; rfl
    ·
      obtain ⟨r4, r7, r8⟩ := HG.out
      have z0 := r4.cell (show 0 < 4 by omega)
      have z1 := r4.cell (show 1 < 4 by omega)
      have z2 := r4.cell (show 2 < 4 by omega)
      have z3 := r4.cell (show 3 < 4 by omega)
      dsimp only [inF] at z0 z1 z2 z3
      have c0 := r7.cell (show 0 < 4 by omega)
      have c1 := r7.cell (show 1 < 4 by omega)
      have c2 := r7.cell (show 2 < 4 by omega)
      have c3 := r7.cell (show 3 < 4 by omega)
      dsimp only [inF] at c0 c1 c2 c3
      have y0 := r4.frozen 0
      have y1 := r4.frozen 1
      have y2 := r4.frozen 2
      have y3 := r4.frozen 3
      have v0 := r7.frozen 0
      have v1 := r7.frozen 1
      have v2 := r7.frozen 2
      have v3 := r7.frozen 3
      have s0 := r8.cell (show 0 < 7 by omega)
      have s1 := r8.cell (show 1 < 7 by omega)
      have s2 := r8.cell (show 2 < 7 by omega)
      have s3 := r8.cell (show 3 < 7 by omega)
      have s4 := r8.cell (show 4 < 7 by omega)
      have s5 := r8.cell (show 5 < 7 by omega)
      have s6 := r8.cell (show 6 < 7 by omega)
      dsimp only [shF] at s0 s1 s2 s3 s4 s5 s6
      by_cases hl : (0 : Int) < (low : Int)
      · have HL : Hid (BadX ⟨true, -1, false, false, false, false, true⟩ low) := ⟨rfl, .inr hl⟩
        go_wp2_with fail
        (try simp only [Exit.inBlock, Exit.then])
        refine bodyPost_ret (in_results rfl _ _ w.heap.size rfl (in_set4 0 0 0 0 r4)) rfl ?_
        refine ⟨?_, in_bel HBC.out (Nat.le_refl _)⟩
        rw [getR_bad HO.out HLO.out HX.out HL.out]; rfl
      have HL : Hid (¬ BadX ⟨true, -1, false, false, false, false, true⟩ low) := fun h => h.2.elim (fun h => by cases h) (fun h => hl h)
      have HM := Lib.hid (fun W => more_any o HO8.out low 0 0 W)
      rw [show moreI ⟨o, low, 0, 0⟩ = 2 by unfold moreI; rw [HX.out]; rfl] at HM
      unfold insV at HM
      go_wp2_with fail
      have hq7 := in_setD (low : Int) r7
      have hbq : Below w.heap.size w (wc.setCell ⟨w.heap.size + 1, 1, none⟩ (.int .i64 low)) := HBC.out.setCell (p := ⟨w.heap.size + 1, 1, none⟩) (Nat.le_succ _) _
      have hq4 := row_oth r4 (show w.heap.size ≠ w.heap.size + 1 by omega) 1 (.int .i64 low)
      have hq8 := row_oth r8 HG8.out 1 (.int .i64 low)
      refine (HM.out _).mono ?_
      rintro e w5 ⟨rfl, hb5⟩
      have HB5 := Lib.hid (hbq.trans (hb5.mono hbq.size))
      clear z0 z1 z2 z3 c0 c1 c2 c3 y0 y1 y2 y3 v0 v1 v2 v3 s0 s1 s2 s3 s4 s5 s6 r4 r7 r8
      clear HG
      have HG := Lib.hid (And.intro (below_row hb5 hq4 hq4.lt) (And.intro (below_row hb5 hq7 hq7.lt) (below_row hb5 hq8 hq8.lt)))
      clear hq7 hbq hq4 hq8 hb5 HM HBC
      have hp16 : p < 65536 := by have := HF.out; omega
      obtain ⟨r4, r7, r8⟩ := HG.out
      have z0 := r4.cell (show 0 < 4 by omega)
      have z1 := r4.cell (show 1 < 4 by omega)
      have z2 := r4.cell (show 2 < 4 by omega)
      have z3 := r4.cell (show 3 < 4 by omega)
      dsimp only [inF] at z0 z1 z2 z3
      have c0 := r7.cell (show 0 < 4 by omega)
      have c1 := r7.cell (show 1 < 4 by omega)
      have c2 := r7.cell (show 2 < 4 by omega)
      have c3 := r7.cell (show 3 < 4 by omega)
      dsimp only [inF] at c0 c1 c2 c3
      have y0 := r4.frozen 0
      have y1 := r4.frozen 1
      have y2 := r4.frozen 2
      have y3 := r4.frozen 3
      have v0 := r7.frozen 0
      have v1 := r7.frozen 1
      have v2 := r7.frozen 2
      have v3 := r7.frozen 3
      have s0 := r8.cell (show 0 < 7 by omega)
      have s1 := r8.cell (show 1 < 7 by omega)
      have s2 := r8.cell (show 2 < 7 by omega)
      have s3 := r8.cell (show 3 < 7 by omega)
      have s4 := r8.cell (show 4 < 7 by omega)
      have s5 := r8.cell (show 5 < 7 by omega)
      have s6 := r8.cell (show 6 < 7 by omega)
      dsimp only [shF] at s0 s1 s2 s3 s4 s5 s6
      clear hl
      have HMX : Hid (moreX (⟨true, -1, false, false, false, false, true⟩ : Shp) (if (⟨true, -1, false, false, false, false, true⟩ : Shp).operand then (low : Int) else 0) = 2) := rfl
      by_cases hsh : b.length < p + 1 + 2
      ·
        have i2 : (b.length : Int) < (p : Int) + 1 + 2 := by omega
        have HSH := Lib.hid hsh
        clear hsh
        go_wp2_with fail
        (try simp only [Exit.inBlock, Exit.then])
        refine bodyPost_ret (in_results rfl _ _ w.heap.size rfl (in_set4 0 0 0 0 r4)) rfl ?_
        refine ⟨?_, in_bel HB5.out (Nat.le_refl _)⟩
        rw [getR_short HO.out HLO.out HX.out HL.out (m := 2) HMX.out HSH.out]; rfl
      ·
        have i2 : ¬ (b.length : Int) < (p : Int) + 1 + 2 := by omega
        obtain ⟨a1, ha1⟩ : ∃ a1, a1 = nth b (p + 1) := ⟨_, rfl⟩
        obtain ⟨a2, ha2⟩ : ∃ a2, a2 = nth b (p + 2) := ⟨_, rfl⟩
        have b5 : (0 : Int) ≤ (p : Int) + 1 := by omega
        have b6 : (p : Int) + 1 < (b.length : Int) := by omega
        have b7 : (0 : Int) ≤ (p : Int) + 2 := by omega
        have b8 : (p : Int) + 2 < (b.length : Int) := by omega
        have hq1 : a1 < 256 := by rw [ha1]; exact nth_lt HR.out.1.1 _
        have hq2 : a2 < 256 := by rw [ha2]; exact nth_lt HR.out.1.1 _
        have hc5 : w5.cell? ⟨g0, o0 + (p + 1), none⟩ = some (.int .u8 a1) := by rw [ha1]; exact (HB5.out.cell HR.out.2.1).trans (HR.out.2.2 (p + 1) (by omega))
        have hc6 : w5.cell? ⟨g0, o0 + (p + 2), none⟩ = some (.int .u8 a2) := by rw [ha2]; exact (HB5.out.cell HR.out.2.1).trans (HR.out.2.2 (p + 2) (by omega))
        have hw1 : IntKind.i64.wrap ((p : Int) + 1) = (p : Int) + 1 := by have h := wnN (x := (p : Int) + 1) (n := p + 1) (by omega) (by omega); rw [h]; omega
        have hw2 : IntKind.i64.wrap ((p : Int) + 2) = (p : Int) + 2 := by have h := wnN (x := (p : Int) + 2) (n := p + 2) (by omega) (by omega); rw [h]; omega
        have HB56 := Lib.hid (And.intro (And.intro b5 b6) (And.intro b7 b8))
        have HC56 := Lib.hid (And.intro hc5 hc6)
        have HG05 : Hid (g0 < w.heap.size + 1) := Nat.lt_succ_of_lt HR.out.2.1
        have hz := lj_m hq1 hq2
        obtain ⟨z, hzz⟩ : ∃ z, ((a1 * 256 + a2 : Nat) : Int) = z := ⟨_, rfl⟩
        rw [hzz] at hz
        have HZ9 := Lib.hid hz
        clear hz
        have HZ8 : Hid (((b.getD (p + 1) 0 * 256 + b.getD (p + 2) 0 : Nat) : Int) = z) := by unfold Hid; rw [← hzz, ha1, ha2]; rfl
        clear ha1 ha2 hc5 hc6 hzz
        have HGE : Hid (getR b p = if rightI o low 0 z then (⟨o, low, 0, z⟩, p + 1 + 2, 0) else (i0, 0, 110)) := getR_ok HO.out HLO.out HX.out HL.out (m := 2) HMX.out hsh (by first | rfl | simp) (by first | rfl | (unfold getS; simp)) (by first | rfl | exact HZ8.out | (unfold getN; simp))
        have HSH := Lib.hid hsh
        clear hsh
        go_upto_region 15 with fail
        obtain ⟨b56, b78⟩ := HB56.out
        have hn2 : ((p : Int) + 2).toNat = p + 2 := by omega
        go_region_held3 (fun W => W.cell? ⟨g0, o0 + (p + 1), none⟩ = some (.int .u8 a1) ∧ W.cell? ⟨g0, o0 + (p + 2), none⟩ = some (.int .u8 a2))
          (first
            | with_reducible exact HC56.out
            | with_reducible exact cc_drew HC56.out
            | with_reducible exact cc_set1 HG05.out HG05.out HC56.out
            | with_reducible exact cc_set2 HG05.out HG05.out HC56.out
            | with_reducible exact cc_set3 HG05.out HG05.out HC56.out
            | fail)
          (fail)
        all_goals
          rw [HZ9.out]
          have hq7 := row_dr (in_setN (z : Int) r7)
          have hbq : Below w.heap.size w (w5.setCell ⟨w.heap.size + 1, 3, none⟩ (.int .i64 z)).drew := below_drewN' (HB5.out.setCell (p := ⟨w.heap.size + 1, 3, none⟩) (Nat.le_succ _) _) 1
          have hq4 := row_dr (row_oth r4 (show w.heap.size ≠ w.heap.size + 1 by omega) 3 (.int .i64 z))
          have hq8 := row_dr (row_oth r8 HG8.out 3 (.int .i64 z))
          have d0 := hq7.cell (show 0 < 4 by omega)
          have d1 := hq7.cell (show 1 < 4 by omega)
          have d2 := hq7.cell (show 2 < 4 by omega)
          have d3 := hq7.cell (show 3 < 4 by omega)
          dsimp only [inF] at d0 d1 d2 d3
          generalize (w5.setCell ⟨w.heap.size + 1, 3, none⟩ (.int .i64 z)).drew = w55 at *
          go_wp2_with fail
          clear d0 d1 d2 d3
          refine (right_any o HO8.out low 0 z _).mono ?_
          rintro e w6 ⟨rfl, hb6⟩
          have HB6 := Lib.hid (hbq.trans (hb6.mono hbq.size))
          clear z0 z1 z2 z3 c0 c1 c2 c3 y0 y1 y2 y3 v0 v1 v2 v3 s0 s1 s2 s3 s4 s5 s6 r4 r7 r8
          clear HG HB5
          have HG := Lib.hid (And.intro (below_row hb6 hq4 hq4.lt) (And.intro (below_row hb6 hq7 hq7.lt) (below_row hb6 hq8 hq8.lt)))
          clear hq7 hbq hq4 hq8 hb6
          obtain ⟨r4, r7, r8⟩ := HG.out
          have z0 := r4.cell (show 0 < 4 by omega)
          have z1 := r4.cell (show 1 < 4 by omega)
          have z2 := r4.cell (show 2 < 4 by omega)
          have z3 := r4.cell (show 3 < 4 by omega)
          dsimp only [inF] at z0 z1 z2 z3
          have c0 := r7.cell (show 0 < 4 by omega)
          have c1 := r7.cell (show 1 < 4 by omega)
          have c2 := r7.cell (show 2 < 4 by omega)
          have c3 := r7.cell (show 3 < 4 by omega)
          dsimp only [inF] at c0 c1 c2 c3
          have y0 := r4.frozen 0
          have y1 := r4.frozen 1
          have y2 := r4.frozen 2
          have y3 := r4.frozen 3
          have v0 := r7.frozen 0
          have v1 := r7.frozen 1
          have v2 := r7.frozen 2
          have v3 := r7.frozen 3
          have s0 := r8.cell (show 0 < 7 by omega)
          have s1 := r8.cell (show 1 < 7 by omega)
          have s2 := r8.cell (show 2 < 7 by omega)
          have s3 := r8.cell (show 3 < 7 by omega)
          have s4 := r8.cell (show 4 < 7 by omega)
          have s5 := r8.cell (show 5 < 7 by omega)
          have s6 := r8.cell (show 6 < 7 by omega)
          dsimp only [shF] at s0 s1 s2 s3 s4 s5 s6
          obtain ⟨ri, hri⟩ : ∃ ri, rightI o low 0 z = ri := ⟨_, rfl⟩
          rw [hri]
          have HRI := Lib.hid hri
          clear hri
          cases ri with
          | false =>
            go_wp2_with fail
            (try simp only [Exit.inBlock, Exit.then])
            refine bodyPost_ret (in_results rfl _ _ w.heap.size rfl (in_set4 0 0 0 0 r4)) rfl ?_
            refine ⟨?_, in_bel HB6.out (Nat.le_refl _)⟩
            rw [HGE.out, HRI.out]; rfl
          | true =>
            go_wp2_with fail
            (try simp only [Exit.inBlock, Exit.then])
            refine bodyPost_ret (in_results rfl _ _ w.heap.size rfl (in_set4 o low 0 z r4)) rfl ?_
            refine ⟨?_, in_bel HB6.out (Nat.le_refl _)⟩
            rw [HGE.out, HRI.out]; rfl
    ·
      obtain ⟨r4, r7, r8⟩ := HG.out
      have z0 := r4.cell (show 0 < 4 by omega)
      have z1 := r4.cell (show 1 < 4 by omega)
      have z2 := r4.cell (show 2 < 4 by omega)
      have z3 := r4.cell (show 3 < 4 by omega)
      dsimp only [inF] at z0 z1 z2 z3
      have c0 := r7.cell (show 0 < 4 by omega)
      have c1 := r7.cell (show 1 < 4 by omega)
      have c2 := r7.cell (show 2 < 4 by omega)
      have c3 := r7.cell (show 3 < 4 by omega)
      dsimp only [inF] at c0 c1 c2 c3
      have y0 := r4.frozen 0
      have y1 := r4.frozen 1
      have y2 := r4.frozen 2
      have y3 := r4.frozen 3
      have v0 := r7.frozen 0
      have v1 := r7.frozen 1
      have v2 := r7.frozen 2
      have v3 := r7.frozen 3
      have s0 := r8.cell (show 0 < 7 by omega)
      have s1 := r8.cell (show 1 < 7 by omega)
      have s2 := r8.cell (show 2 < 7 by omega)
      have s3 := r8.cell (show 3 < 7 by omega)
      have s4 := r8.cell (show 4 < 7 by omega)
      have s5 := r8.cell (show 5 < 7 by omega)
      have s6 := r8.cell (show 6 < 7 by omega)
      dsimp only [shF] at s0 s1 s2 s3 s4 s5 s6
      go_wp2_with fail
      (try simp only [Exit.inBlock, Exit.then])
      refine bodyPost_ret (in_results rfl _ _ w.heap.size rfl (in_set4 0 0 0 0 r4)) rfl ?_
      refine ⟨?_, in_bel HBC.out (Nat.le_refl _)⟩
      rw [getR_bad HO.out HLO.out HX.out ⟨rfl, .inl rfl⟩]; rfl
/-- code.Get. -/
theorem get_any (b : List Nat) (p : Nat) (A : Option Addr) (c : Nat) (w : World) (hR : Rd w A b) (hp : p < b.length) (hb : b.length ≤ 65536) : Calls Try.prog 30 #[.slice A b.length c, .int .i64 p] w (GetP b p w) :=
  get_1 b p A c w hR hp hb _ rfl
end Go.Proofs.Ythmpagehmfillaa
