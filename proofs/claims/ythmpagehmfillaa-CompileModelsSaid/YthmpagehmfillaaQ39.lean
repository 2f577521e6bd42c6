/-
  THE WALK OF compile.Compile. Conditions: none.
-/
import Derived.Test.YthmpagehmfillaaQ29
import Derived.Test.YthmpagehmfillaaQ33
import Derived.Test.YthmpagehmfillaaQ38
import Derived.Deep.RegionHeld3
import Derived.Test.YthmpagehmfillaaQ35
namespace Go.Proofs.Ythmpagehmfillaa
open Go.RowKit
set_option linter.unusedSimpArgs false
set_option linter.unusedVariables false
set_option maxRecDepth 100000
theorem two_ob (w : World) (a b : Obj) : ((w.alloc a).alloc b).heap[w.heap.size]? = some a ∧ ((w.alloc a).alloc b).heap[w.heap.size + 1]? = some b ∧ Below w.heap.size w ((w.alloc a).alloc b) ∧ ((w.alloc a).alloc b).heap.size = w.heap.size + 2 := by
  have e := World.size_alloc w a
  have e2 := World.size_alloc (w.alloc a) b
  have h1 := heap_alloc_new w a
  have h2 := heap_alloc_new (w.alloc a) b
  have hb : Below w.heap.size w (w.alloc a) := (Below.refl _ _).alloc (Nat.le_refl _) _
  have hb2 : Below (w.alloc a).heap.size (w.alloc a) ((w.alloc a).alloc b) := (Below.refl _ _).alloc (Nat.le_refl _) _
  rw [e] at h2
  exact ⟨(hb2.block _ (by omega)).trans h1, h2, hb.trans (hb2.mono (by omega)), by omega⟩
theorem row_drew {w : World} {g t n : Nat} {f : Nat → Value} (h : w.rowIs g t n f) : w.drew.rowIs g t n f := h
theorem below_drew1 {B : Nat} {a w : World} (h : Below B a w) : Below B a w.drew := below_drewN' h 1
/-- Both results are stored. -/
def setMF (W : World) (g : Nat) (a b c d : Int) (vp vc vq : Value) (x y : Int) : World :=
  ((((((((W.setCell ⟨g, 0, none⟩ (.int .i64 a)).setCell ⟨g, 1, none⟩ (.int .i64 b)).setCell ⟨g, 2, none⟩ (.int .i64 c)).setCell ⟨g, 3, none⟩ (.int .i64 d)).setCell ⟨g, 4, none⟩ vp).setCell ⟨g, 5, none⟩ vc).setCell ⟨g, 6, none⟩ vq).setCell ⟨g + 1, 0, none⟩ (.int .i64 x)).setCell ⟨g + 1, 1, none⟩ (.int .i64 y)
theorem mf_done {W : World} {g : Nat} {f f' : Nat → Value} (h2 : W.rowIs g 26 7 f) (h3 : W.rowIs (g + 1) 29 2 f') (a b c d : Int) (vp vc vq : Value) (x y : Int) :
    (setMF W g a b c d vp vc vq x y).rowIs g 26 7 (modF a b c d vp vc vq) ∧ (setMF W g a b c d vp vc vq x y).rowIs (g + 1) 29 2 (fltF x y) ∧ ∀ {B : Nat} {w : World}, Below B w W → B ≤ g → Below B w (setMF W g a b c d vp vc vq x y) := by
  have hn : g ≠ g + 1 := by omega
  refine ⟨row_oth (row_oth (mod_all a b c d vp vc vq h2) hn 0 _) hn 1 _, flt_all x y (row_oth (row_oth (row_oth (row_oth (row_oth (row_oth (row_oth h3 hn.symm 0 _) hn.symm 1 _) hn.symm 2 _) hn.symm 3 _) hn.symm 4 _) hn.symm 5 _) hn.symm 6 _), fun hb hB => ?_⟩
  exact ((((((((hb.setCell (p := ⟨g, 0, none⟩) hB _).setCell (p := ⟨g, 1, none⟩) hB _).setCell (p := ⟨g, 2, none⟩) hB _).setCell (p := ⟨g, 3, none⟩) hB _).setCell (p := ⟨g, 4, none⟩) hB _).setCell (p := ⟨g, 5, none⟩) hB _).setCell (p := ⟨g, 6, none⟩) hB _).setCell (p := ⟨g + 1, 0, none⟩) (Nat.le_succ_of_le hB) _).setCell (p := ⟨g + 1, 1, none⟩) (Nat.le_succ_of_le hB) _
theorem five_below {w w' : World} {B g : Nat} {a b c d : Int} {v : Value} (hb : Below B w w') (hg : g < B) (h : w.cell? ⟨g, 0, none⟩ = some (.int .i64 a) ∧ w.cell? ⟨g, 1, none⟩ = some (.int .i64 b) ∧ w.cell? ⟨g, 2, none⟩ = some (.int .i64 c) ∧ w.cell? ⟨g, 3, none⟩ = some (.int .i64 d) ∧ w.cell? ⟨g, 4, none⟩ = some v) :
    w'.cell? ⟨g, 0, none⟩ = some (.int .i64 a) ∧ w'.cell? ⟨g, 1, none⟩ = some (.int .i64 b) ∧ w'.cell? ⟨g, 2, none⟩ = some (.int .i64 c) ∧ w'.cell? ⟨g, 3, none⟩ = some (.int .i64 d) ∧ w'.cell? ⟨g, 4, none⟩ = some v :=
  ⟨(hb.cell (p := ⟨g, 0, none⟩) hg).trans h.1, (hb.cell (p := ⟨g, 1, none⟩) hg).trans h.2.1, (hb.cell (p := ⟨g, 2, none⟩) hg).trans h.2.2.1, (hb.cell (p := ⟨g, 3, none⟩) hg).trans h.2.2.2.1, (hb.cell (p := ⟨g, 4, none⟩) hg).trans h.2.2.2.2⟩
theorem five_drew {w : World} {g : Nat} {a b c d : Int} {v : Value} (h : w.cell? ⟨g, 0, none⟩ = some (.int .i64 a) ∧ w.cell? ⟨g, 1, none⟩ = some (.int .i64 b) ∧ w.cell? ⟨g, 2, none⟩ = some (.int .i64 c) ∧ w.cell? ⟨g, 3, none⟩ = some (.int .i64 d) ∧ w.cell? ⟨g, 4, none⟩ = some v) : w.drew.cell? ⟨g, 0, none⟩ = some (.int .i64 a) ∧ w.drew.cell? ⟨g, 1, none⟩ = some (.int .i64 b) ∧ w.drew.cell? ⟨g, 2, none⟩ = some (.int .i64 c) ∧ w.drew.cell? ⟨g, 3, none⟩ = some (.int .i64 d) ∧ w.drew.cell? ⟨g, 4, none⟩ = some v := h
theorem five_set {w : World} {g q : Nat} {a b c d : Int} {v u0 u1 u2 u3 u4 u5 u6 : Value} (hq : g < q) (h : w.cell? ⟨g, 0, none⟩ = some (.int .i64 a) ∧ w.cell? ⟨g, 1, none⟩ = some (.int .i64 b) ∧ w.cell? ⟨g, 2, none⟩ = some (.int .i64 c) ∧ w.cell? ⟨g, 3, none⟩ = some (.int .i64 d) ∧ w.cell? ⟨g, 4, none⟩ = some v) : (((((((w.setCell ⟨q, 0, none⟩ u0).setCell ⟨q, 1, none⟩ u1).setCell ⟨q, 2, none⟩ u2).setCell ⟨q, 3, none⟩ u3).setCell ⟨q, 4, none⟩ u4).setCell ⟨q, 5, none⟩ u5).setCell ⟨q, 6, none⟩ u6).cell? ⟨g, 0, none⟩ = some (.int .i64 a) ∧ (((((((w.setCell ⟨q, 0, none⟩ u0).setCell ⟨q, 1, none⟩ u1).setCell ⟨q, 2, none⟩ u2).setCell ⟨q, 3, none⟩ u3).setCell ⟨q, 4, none⟩ u4).setCell ⟨q, 5, none⟩ u5).setCell ⟨q, 6, none⟩ u6).cell? ⟨g, 1, none⟩ = some (.int .i64 b) ∧ (((((((w.setCell ⟨q, 0, none⟩ u0).setCell ⟨q, 1, none⟩ u1).setCell ⟨q, 2, none⟩ u2).setCell ⟨q, 3, none⟩ u3).setCell ⟨q, 4, none⟩ u4).setCell ⟨q, 5, none⟩ u5).setCell ⟨q, 6, none⟩ u6).cell? ⟨g, 2, none⟩ = some (.int .i64 c) ∧ (((((((w.setCell ⟨q, 0, none⟩ u0).setCell ⟨q, 1, none⟩ u1).setCell ⟨q, 2, none⟩ u2).setCell ⟨q, 3, none⟩ u3).setCell ⟨q, 4, none⟩ u4).setCell ⟨q, 5, none⟩ u5).setCell ⟨q, 6, none⟩ u6).cell? ⟨g, 3, none⟩ = some (.int .i64 d) ∧ (((((((w.setCell ⟨q, 0, none⟩ u0).setCell ⟨q, 1, none⟩ u1).setCell ⟨q, 2, none⟩ u2).setCell ⟨q, 3, none⟩ u3).setCell ⟨q, 4, none⟩ u4).setCell ⟨q, 5, none⟩ u5).setCell ⟨q, 6, none⟩ u6).cell? ⟨g, 4, none⟩ = some v :=
  five_below (w := w) (B := q) ((((((((Below.refl q w).setCell (p := ⟨q, 0, none⟩) (Nat.le_refl _) _).setCell (p := ⟨q, 1, none⟩) (Nat.le_refl _) _).setCell (p := ⟨q, 2, none⟩) (Nat.le_refl _) _).setCell (p := ⟨q, 3, none⟩) (Nat.le_refl _) _).setCell (p := ⟨q, 4, none⟩) (Nat.le_refl _) _).setCell (p := ⟨q, 5, none⟩) (Nat.le_refl _) _).setCell (p := ⟨q, 6, none⟩) (Nat.le_refl _) _) hq h
/-- The model's row, made while the parts are copied. -/
def MdP (c : CfgS) (w0 wx : World) (s : Value) : Prop :=
  ∃ q A n, s = .pointer (some ⟨q, 0, none⟩) ∧ w0.heap.size ≤ q ∧ wx.rowIs q 26 7 (modF c.h c.m c.ph c.pm (.slice A c.parts.length n) (.slice none 0 0) (.slice none 0 0)) ∧ PrT wx (fun k => w0.heap.size ≤ k ∧ k ≠ q) (.slice A c.parts.length n) c.parts ∧ Below w0.heap.size w0 wx
theorem ow_kep {P : Nat → Prop} {w w' : World} {B : Nat} {v : Value} {l : List Nat} (h : Ow w B v l) (hk : Kep P w w') (hP : ∀ k, B ≤ k → P k) : Ow w' B v l := by
  obtain ⟨h1, h2, h | ⟨g, cap, cur, rfl, hg, hh, r⟩⟩ := h
  · exact ⟨h1, h2, .inl h⟩
  · exact ⟨h1, h2, .inr ⟨g, cap, cur, rfl, hg, (hk.block g (lt_of_block hh) (hP g hg)).trans hh, r⟩⟩
theorem size_ad (w : World) (o : Obj) : (w.alloc o).drew.heap.size = w.heap.size + 1 := World.size_alloc w o
theorem mod_grown {w : World} {g : Nat} (h m ph pm vp vc vq : Value) : w.grownBy (((((((w.setCell ⟨g, 0, none⟩ h).setCell ⟨g, 1, none⟩ m).setCell ⟨g, 2, none⟩ ph).setCell ⟨g, 3, none⟩ pm).setCell ⟨g, 4, none⟩ vp).setCell ⟨g, 5, none⟩ vc).setCell ⟨g, 6, none⟩ vq) (some g) :=
  grown_set (grown_set (grown_set (grown_set (grown_set (grown_set (grown_set (grown_refl w (some g)) (.inl rfl) _) (.inl rfl) _) (.inl rfl) _) (.inl rfl) _) (.inl rfl) _) (.inl rfl) _) (.inl rfl) _
theorem md_alloc {c : CfgS} {w6 w7 : World} {A : Option Addr} {n : Nat} (ht : PrT w7 (fun k => w6.heap.size ≤ k) (.slice A c.parts.length n) c.parts) (hb : Below w6.heap.size w6 w7) :
    MdP c w6 (w7.alloc (.cells #[.int .i64 c.h, .int .i64 c.m, .int .i64 c.ph, .int .i64 c.pm, .slice A c.parts.length n, .slice none 0 0, .slice none 0 0] 26)) (.pointer (some ⟨w7.heap.size, 0, none⟩)) :=
  ⟨w7.heap.size, A, n, rfl, hb.size, mod_row (heap_alloc_new w7 _), (ht.mono (S' := fun k => w6.heap.size ≤ k ∧ k ≠ w7.heap.size) (fun k hk hl => ⟨hk, Nat.ne_of_lt hl⟩)).below ((Below.refl _ _).alloc (Nat.le_refl _) _), hb.alloc hb.size _⟩
theorem md_set {c : CfgS} {w6 w7 : World} {A : Option Addr} {n : Nat} {f : Nat → Value} (hr : w7.rowIs w6.heap.size 26 7 f) (ht : PrT w7 (fun k => w6.heap.size + 1 ≤ k) (.slice A c.parts.length n) c.parts) (hb : Below w6.heap.size w6 w7) :
    MdP c w6 (((((((w7.setCell ⟨w6.heap.size, 0, none⟩ (.int .i64 c.h)).setCell ⟨w6.heap.size, 1, none⟩ (.int .i64 c.m)).setCell ⟨w6.heap.size, 2, none⟩ (.int .i64 c.ph)).setCell ⟨w6.heap.size, 3, none⟩ (.int .i64 c.pm)).setCell ⟨w6.heap.size, 4, none⟩ (.slice A c.parts.length n)).setCell ⟨w6.heap.size, 5, none⟩ (.slice none 0 0)).setCell ⟨w6.heap.size, 6, none⟩ (.slice none 0 0)) (.pointer (some ⟨w6.heap.size, 0, none⟩)) := by
  have hg := mod_grown (w := w7) (g := w6.heap.size) (.int .i64 c.h) (.int .i64 c.m) (.int .i64 c.ph) (.int .i64 c.pm) (.slice A c.parts.length n) (.slice none 0 0) (.slice none 0 0)
  exact ⟨w6.heap.size, A, n, rfl, Nat.le_refl _, mod_all _ _ _ _ _ _ _ hr, (ht.grown hg (fun k hk e => by injection e with e; omega)).mono (fun k hk _ => ⟨by omega, by omega⟩), hb.grown hg hb.size (fun k e => by injection e with e; omega)⟩
theorem mf_kep {P : Nat → Prop} {W : World} {g : Nat} (h0 : ¬ P g) (h1 : ¬ P (g + 1)) (a b c d : Int) (vp vc vq : Value) (x y : Int) : Kep P W (setMF W g a b c d vp vc vq x y) :=
  (((((((((Kep.refl P W).set (p := ⟨g, 0, none⟩) h0 _).set (p := ⟨g, 1, none⟩) h0 _).set (p := ⟨g, 2, none⟩) h0 _).set (p := ⟨g, 3, none⟩) h0 _).set (p := ⟨g, 4, none⟩) h0 _).set (p := ⟨g, 5, none⟩) h0 _).set (p := ⟨g, 6, none⟩) h0 _).set (p := ⟨g + 1, 0, none⟩) h1 _).set (p := ⟨g + 1, 1, none⟩) h1 _
theorem parse_b8 (s : ByteArray) : ((cfgO (parseT s)).code.b8 ∧ (cfgO (parseT s)).post.b8) ∧ (cfgO (parseT s)).code.all ≤ 500 ∧ (cfgO (parseT s)).post.all ≤ 500 := by
  cases h : parseT s with
  | error x => exact ⟨⟨trivial, trivial⟩, Nat.zero_le _, Nat.zero_le _⟩
  | ok c =>
    obtain ⟨g1, g2, g3, g4, -⟩ := parseT_good h
    exact ⟨⟨g1.2.2, g3.2.2⟩, g2, g4⟩
theorem check_parts {c : CfgS} (h : checkT c = 0) : c.parts.length ≤ 256 := by
  unfold checkT at h
  split at h
  · cases h
  split at h
  · cases h
  split at h
  · contradiction
  split at h
  · cases h
  · next _ hb _ hp =>
    have hb' : (inC c.h 8 && inC c.ph 8 && inC c.m 12 && inC c.pm 12) = true := by cases hh : (inC c.h 8 && inC c.ph 8 && inC c.m 12 && inC c.pm 12) with | true => rfl | false => exact absurd hh hb
    simp only [Bool.and_eq_true] at hb'
    have h8 := hb'.1.1.1
    unfold inC at h8
    simp only [Bool.and_eq_true, decide_eq_true_eq] at h8
    have hn : c.h.toNat ≤ 8 := by omega
    have hpw : (2 : Nat) ^ c.h.toNat ≤ 2 ^ 8 := Nat.pow_le_pow_right (by omega) hn
    have hpz : ((2 : Int) ^ c.h.toNat) = ((2 ^ c.h.toNat : Nat) : Int) := by push_cast; rfl
    rw [hpz] at hp
    omega
set_option maxHeartbeats 8000000 in
theorem compile_any (s : ByteArray) (w : World) : Calls Try.prog 6 #[.string s] w (CompP (parseT s) w) := by
  obtain ⟨a2, a3, ab, asz⟩ := two_ob w (.cells (modA 0 0 0 0 (.slice none 0 0) (.slice none 0 0) (.slice none 0 0)) 26) (.cells #[.int .i64 0, .int .i64 0] 29)
  have hr2 := mod_row a2
  have hr3 := flt_row a3
  unfold modA at hr2 hr3 ab asz
  clear a2 a3
  have HQ := Lib.hid (show w.heap.size ≠ w.heap.size + 1 by omega)
  go_enter Try.func6, Try.ntmps6
  go_wp2_with fail
  generalize (w.alloc (.cells #[.int .i64 0, .int .i64 0, .int .i64 0, .int .i64 0, .slice none 0 0, .slice none 0 0, .slice none 0 0] 26)).alloc (.cells #[.int .i64 0, .int .i64 0] 29) = W2 at *
  have HR20 := Lib.hid hr2
  have HR30 := Lib.hid hr3
  have HB0 := Lib.hid ab
  have HSZ := Lib.hid asz
  clear hr2 hr3 ab asz
  refine (parse_any s W2).mono ?_
  rintro e w3 hpp
  obtain ⟨c, vp, vc, vq, x, y, rfl, hp, hc, hq, hb3, hce, hxe⟩ := hpp.frm
  have hcr : compR (parseT s) = compK c (x, y) := by unfold compR; rw [← hce, ← hxe]
  have hgood : (c.code.b8 ∧ c.post.b8) ∧ c.code.all ≤ 500 ∧ c.post.all ≤ 500 := by rw [hce]; exact parse_b8 s
  obtain ⟨Ap, np, rfl⟩ := hp.form
  obtain ⟨Ac, nc, rfl, -, -⟩ := hc.frm
  obtain ⟨Aq, nq, rfl, -, -⟩ := hq.frm
  obtain ⟨b4, b5, bb, bsz⟩ := two_ob w3 (.cells (cfgA c.h c.m c.ph c.pm (.slice Ap c.parts.length np) (.slice Ac c.code.len nc) (.slice Aq c.post.len nq) c.has) 62) (.cells #[.int .i64 x, .int .i64 y] 29)
  have r4 := cfg_row b4
  have r5 := flt_row b5
  have hb5 := hb3.trans (bb.mono hb3.size)
  have r2 := below_row hb5 HR20.out HR20.out.lt
  have r3 := below_row hb5 HR30.out HR30.out.lt
  have hp5 := hp.below bb
  have hc5 := hc.below bb
  have hq5 := hq.below bb
  have hbx := HB0.out.trans (hb5.mono HB0.out.size)
  have hge : w.heap.size + 2 ≤ w3.heap.size := by have := hb3.size; have := HSZ.out; omega
  have HCR := Lib.hid hcr
  have HGD := Lib.hid hgood
  unfold cfgA at *
  clear hpp hp hc hq hb3 hce hxe hcr hgood b4 b5 bb bsz hb5 HR20 HR30
  go_upto_region 2 with fail
  generalize (w3.alloc (.cells #[.int .i64 c.h, .int .i64 c.m, .int .i64 c.ph, .int .i64 c.pm, .slice Ap c.parts.length np, .slice Ac c.code.len nc, .slice Aq c.post.len nq, .bool c.has] 62)).alloc (.cells #[.int .i64 x, .int .i64 y] 29) = W5 at *
  have HR2 := Lib.hid r2
  have HR3 := Lib.hid r3
  have HR4 := Lib.hid r4
  have HP5 := Lib.hid (And.intro hp5 (And.intro hc5 hq5))
  have HBX := Lib.hid hbx
  have HGE := Lib.hid hge
  have f0 := r5.cell (show 0 < 2 by omega)
  have f1 := r5.cell (show 1 < 2 by omega)
  dsimp only [fltF] at f0 f1
  clear hp5 hc5 hq5 hbx hge
  by_cases hx : x = 0
  · have hx0 : ((x : Int) != 0) = false := by rw [hx]; rfl
    have h0 := r4.cell (show 0 < 8 by omega)
    have h1 := r4.cell (show 1 < 8 by omega)
    have h2 := r4.cell (show 2 < 8 by omega)
    have h3 := r4.cell (show 3 < 8 by omega)
    have h4 := r4.cell (show 4 < 8 by omega)
    have h5 := r4.cell (show 5 < 8 by omega)
    have h6 := r4.cell (show 6 < 8 by omega)
    have h7 := r4.cell (show 7 < 8 by omega)
    dsimp only [cfgF] at h0 h1 h2 h3 h4 h5 h6 h7
    have hk : compK c (x, y) = if checkT c ≠ 0 then (mod0, checkT c, 0)
      else if stmtsE false c.code ≠ 0 then (mod0, (stmtsE false c.code : Int), 0)
      else if c.has = true then (if stmtsE true c.post ≠ 0 then (mod0, (stmtsE true c.post : Int), 0) else (⟨c.h, c.m, c.ph, c.pm, c.parts, stmtsC false c.code, stmtsC true c.post⟩, 0, 0))
      else (⟨c.h, c.m, c.ph, c.pm, c.parts, stmtsC false c.code, []⟩, 0, 0) := by unfold compK; rw [if_neg (by rw [hx]; exact fun h => h rfl)]
    have HC := Lib.hid (HCR.out.trans hk)
    have HCK := Lib.hid (check_any c (.slice Ap c.parts.length np) (.slice Ac c.code.len nc) (.slice Aq c.post.len nq) (fun k => W2.heap.size ≤ k) W5 HGD.out.1 ⟨by have := HGD.out; omega, by have := HGD.out; omega⟩ HP5.out.1 HP5.out.2.1 HP5.out.2.2)
    unfold cfgA at HCK
    clear r2 r3 r5 hk hx f1 HCR
    go_wp2_with fail
    refine HCK.out.mono ?_
    rintro e w6 ⟨rfl, hb6⟩
    have r2 := below_row hb6 HR2.out HR2.out.lt
    have r3 := below_row hb6 HR3.out HR3.out.lt
    have HR26 := Lib.hid r2
    have HR36 := Lib.hid r3
    have HR46 := Lib.hid (below_row hb6 HR4.out HR4.out.lt)
    have HB6 := Lib.hid (HBX.out.trans (hb6.mono HBX.out.size))
    have HT6 := Lib.hid (And.intro (HP5.out.1.below hb6) (And.intro (HP5.out.2.1.below hb6) (HP5.out.2.2.below hb6)))
    clear hb6 h0 h1 h2 h3 h4 h5 h6 h7 f0 HCK HR2 HR3 HR4 r4
    by_cases hz : checkT c = 0
    · have hz0 : (checkT c != 0) = false := by rw [hz]; rfl
      have hlp := check_parts hz
      have hkk := HC.out.trans (if_neg (fun h => h hz))
      have HCC := Lib.hid hkk
      have HF := Lib.hid (show w6.cell? ⟨w3.heap.size, 0, none⟩ = some (.int .i64 c.h) ∧ w6.cell? ⟨w3.heap.size, 1, none⟩ = some (.int .i64 c.m) ∧ w6.cell? ⟨w3.heap.size, 2, none⟩ = some (.int .i64 c.ph) ∧ w6.cell? ⟨w3.heap.size, 3, none⟩ = some (.int .i64 c.pm) ∧ w6.cell? ⟨w3.heap.size, 4, none⟩ = some (.slice Ap c.parts.length np) from ⟨HR46.out.cell (by omega), HR46.out.cell (by omega), HR46.out.cell (by omega), HR46.out.cell (by omega), HR46.out.cell (by omega)⟩)
      have HLP := Lib.hid hlp
      have HH4 := Lib.hid HR46.out.lt
      have hmr := mod_row (heap_alloc_new (w6.drewN 1) (.cells (modA 0 0 0 0 (.slice none 0 0) (.slice none 0 0) (.slice none 0 0)) 26))
      have HMR := Lib.hid hmr
      have HAL := Lib.hid ((below_drewN' (Below.refl w6.heap.size w6) 1).alloc (Nat.le_refl _) (.cells #[.int .i64 0, .int .i64 0, .int .i64 0, .int .i64 0, .slice none 0 0, .slice none 0 0, .slice none 0 0] 26))
      unfold modA at HMR
      clear r2 r3 hz HC hkk hlp hmr
      go_upto_region 7 with fail
      go_cut [7] (fun s7 wx => MdP c w6 wx s7)
      case first =>
        go_region_held3 (fun W => W.cell? ⟨w3.heap.size, 0, none⟩ = some (.int .i64 c.h) ∧ W.cell? ⟨w3.heap.size, 1, none⟩ = some (.int .i64 c.m) ∧ W.cell? ⟨w3.heap.size, 2, none⟩ = some (.int .i64 c.ph) ∧ W.cell? ⟨w3.heap.size, 3, none⟩ = some (.int .i64 c.pm) ∧ W.cell? ⟨w3.heap.size, 4, none⟩ = some (.slice Ap c.parts.length np))
          (first
            | with_reducible exact HF.out
            | with_reducible exact HF7.out
            | with_reducible exact five_drew HF.out
            | with_reducible exact five_set HH4.out HF7.out
            | with_reducible exact five_drew (five_below ((Below.refl w6.heap.size w6).alloc (Nat.le_refl _) _) HH4.out HF.out)
            | with_reducible exact five_below ((Below.refl w6.heap.size w6.drew).alloc (Nat.le_refl _) _) HH4.out (five_drew HF.out)
            | with_reducible exact five_below HAL.out HH4.out HF.out
            | with_reducible exact five_below ((Below.refl w7.heap.size w7).alloc (Nat.le_refl _) _) (Nat.lt_of_lt_of_le HH4.out HB7.out.size) HF7.out
            | fail)
          (first
            | (go_at_call_of 18 Ap; (refine (clone_any c.parts (.slice Ap c.parts.length np) (fun k => W2.heap.size ≤ k) _ (by have := HLP.out; omega) (by first | exact HT6.out.1.below (below_drewN' (Below.refl _ _) 1) | exact HT6.out.1.below HAL.out)).mono ?_); rintro e w7 ⟨v7, rfl, ht7, hb7⟩
               have HB7 : Hid (Below w6.heap.size w6 w7) := (by first | exact (below_drewN' (Below.refl _ _) 1).trans hb7 | exact HAL.out.trans (hb7.mono HAL.out.size))
               have HF7 := Lib.hid (five_below HB7.out HH4.out HF.out)
               obtain ⟨A7, c7, rfl⟩ := ht7.form
               have HT7 : Hid (PrT w7 (fun k => w6.heap.size ≤ k) (.slice A7 c.parts.length c7) c.parts) := ht7.mono (fun k hk _ => by first | exact hk | (rw [size_ad] at hk; exact Nat.le_of_succ_le hk))
               (try have HT8 : Hid (PrT w7 (fun k => w6.heap.size + 1 ≤ k) (.slice A7 c.parts.length c7) c.parts) := ht7.mono (fun k hk _ => by rw [size_ad] at hk; exact hk))
               (try
                 have HQ7 : Hid (w7.rowIs w6.heap.size 26 7 (modF 0 0 0 0 (.slice none 0 0) (.slice none 0 0) (.slice none 0 0))) := below_row hb7 HMR.out HMR.out.lt
                 have z0 := HQ7.out.cell (show 0 < 7 by omega)
                 have z1 := HQ7.out.cell (show 1 < 7 by omega)
                 have z2 := HQ7.out.cell (show 2 < 7 by omega)
                 have z3 := HQ7.out.cell (show 3 < 7 by omega)
                 have z4 := HQ7.out.cell (show 4 < 7 by omega)
                 have z5 := HQ7.out.cell (show 5 < 7 by omega)
                 have z6 := HQ7.out.cell (show 6 < 7 by omega)
                 have y0 := HQ7.out.frozen 0
                 have y1 := HQ7.out.frozen 1
                 have y2 := HQ7.out.frozen 2
                 have y3 := HQ7.out.frozen 3
                 have y4 := HQ7.out.frozen 4
                 have y5 := HQ7.out.frozen 5
                 have y6 := HQ7.out.frozen 6
                 dsimp only [modF] at z0 z1 z2 z3 z4 z5 z6)
               clear ht7 hb7))
        all_goals
          go_wp2_with fail
          go_meet
          first
            | with_reducible exact md_alloc HT7.out HB7.out
            | with_reducible exact md_set HQ7.out HT8.out HB7.out
      case rest =>
        obtain ⟨q, A7, n7, rfl, hq, hmr, hpt, hbc⟩ := hcut
        have hg6 : w3.heap.size < w6.heap.size := HH4.out
        have hql : q < wc.heap.size := hmr.lt
        have r4c := below_row hbc HR46.out HR46.out.lt
        have r2c := below_row hbc HR26.out HR26.out.lt
        have r3c := below_row hbc HR36.out HR36.out.lt
        have h5 := r4c.cell (show 5 < 8 by omega)
        dsimp only [cfgF] at h5
        have HS1 := Lib.hid (stmts_any false c.code (.slice Ac c.code.len nc) (fun k => W2.heap.size ≤ k) wc HGD.out.1.1 (by have := HGD.out; omega) (HT6.out.2.1.below hbc))
        have HRC := Lib.hid (And.intro r2c (And.intro r3c (And.intro r4c hmr)))
        have HPT := Lib.hid hpt
        have HBC6 := Lib.hid hbc
        have HBC := Lib.hid (HB6.out.trans (hbc.mono HB6.out.size))
        have HNQ := Lib.hid (show w.heap.size ≠ q ∧ w.heap.size + 1 ≠ q ∧ w3.heap.size ≠ q ∧ w.heap.size ≤ q ∧ w.heap.size + 1 < w6.heap.size by have := HGE.out; omega)
        have HQ6 := Lib.hid (And.intro hq (And.intro hql hbc.size))
        clear hq hmr hpt hbc hg6 hql r4c r2c r3c HF HLP HMR HAL HR46 HR26 HR36 HB6 HBX HH4
        go_wp2_with fail
        refine HS1.out.mono ?_
        rintro e w8 ⟨u8, rfl, ho8, hb8⟩
        obtain ⟨A8, n8, rfl, -⟩ := ho8.form
        have rq8 := below_row hb8 HRC.out.2.2.2 HRC.out.2.2.2.lt
        have q5 := rq8.cell (show 5 < 7 by omega)
        have yq5 := rq8.frozen 5
        dsimp only [modF] at q5
        obtain ⟨l8, hl8⟩ : ∃ l8, l8 = stmtsC false c.code := ⟨_, rfl⟩
        rw [← hl8] at ho8 ⊢
        have HL8 := Lib.hid hl8
        have r2n := row_oth (below_row hb8 HRC.out.1 HRC.out.1.lt) HNQ.out.1 5 (.slice A8 l8.length n8)
        have r3n := row_oth (below_row hb8 HRC.out.2.1 HRC.out.2.1.lt) HNQ.out.2.1 5 (.slice A8 l8.length n8)
        have r4n := row_oth (below_row hb8 HRC.out.2.2.1 HRC.out.2.2.1.lt) HNQ.out.2.2.1 5 (.slice A8 l8.length n8)
        have rqn := mod_setC (.slice A8 l8.length n8) rq8
        have kn : Kep (fun k => w6.heap.size ≤ k ∧ k ≠ q) wc (w8.setCell ⟨q, 5, none⟩ (.slice A8 l8.length n8)) := (Kep.below hb8).set (p := ⟨q, 5, none⟩) (fun h => h.2 rfl) _
        have bn : Below w.heap.size w (w8.setCell ⟨q, 5, none⟩ (.slice A8 l8.length n8)) := (HBC.out.trans (hb8.mono HBC.out.size)).setCell (p := ⟨q, 5, none⟩) HNQ.out.2.2.2.1 _
        have on := ow_kep (P := fun k => w6.heap.size ≤ k ∧ k ≠ q) ho8 ((Kep.refl _ w8).set (p := ⟨q, 5, none⟩) (fun h => h.2 rfl) (.slice A8 l8.length n8)) (fun k hk => by have := HQ6.out; omega)
        have b69 : Below w6.heap.size w6 (w8.setCell ⟨q, 5, none⟩ (.slice A8 l8.length n8)) := (HBC6.out.trans (hb8.mono HBC6.out.size)).setCell (p := ⟨q, 5, none⟩) HQ6.out.1 _
        clear hb8 ho8 rq8 HS1 h5 hl8
        go_upto_region 10 with fail
        generalize w8.setCell ⟨q, 5, none⟩ (.slice A8 l8.length n8) = W9 at *
        clear q5 yq5
        have R2 := Lib.hid r2n
        have R3 := Lib.hid r3n
        have R4 := Lib.hid r4n
        have RQ := Lib.hid rqn
        have KN := Lib.hid kn
        have BN := Lib.hid bn
        have ON := Lib.hid on
        have B69 := Lib.hid b69
        clear r2n r3n r4n rqn kn bn on b69
        obtain ⟨k1, hk1⟩ : ∃ k, k = stmtsE false c.code := ⟨_, rfl⟩
        rw [← hk1]
        by_cases hz1 : k1 = 0
        · have e1 : ((k1 : Int) == 0) = true := by rw [hz1]; rfl
          have e2 : ((k1 : Int) != 0) = false := by rw [hz1]; rfl
          have hcz := HCC.out.trans (if_neg (fun h => h (hk1.symm.trans hz1)))
          have h7 := R4.out.cell (show 7 < 8 by omega)
          dsimp only [cfgF] at h7
          cases hhas : c.has with
          | false =>
            rw [hhas] at h7
            have HCZ := Lib.hid (hcz.trans (if_neg (by rw [hhas]; decide)))
            have r2 := R2.out
            have r3 := R3.out
            have u2 := r2.cell (show 0 < 7 by omega)
            have u21 := r2.cell (show 1 < 7 by omega)
            have u22 := r2.cell (show 2 < 7 by omega)
            have u23 := r2.cell (show 3 < 7 by omega)
            have u24 := r2.cell (show 4 < 7 by omega)
            have u25 := r2.cell (show 5 < 7 by omega)
            have u26 := r2.cell (show 6 < 7 by omega)
            have u3 := r3.cell (show 0 < 2 by omega)
            have u31 := r3.cell (show 1 < 2 by omega)
            dsimp only [modF, fltF] at u2 u21 u22 u23 u24 u25 u26 u3 u31
            have z20 := r2.frozen 0
            have z21 := r2.frozen 1
            have z22 := r2.frozen 2
            have z23 := r2.frozen 3
            have z24 := r2.frozen 4
            have z25 := r2.frozen 5
            have z26 := r2.frozen 6
            have z30 := r3.frozen 0
            have z31 := r3.frozen 1
            have v0 := RQ.out.cell (show 0 < 7 by omega)
            have v1 := RQ.out.cell (show 1 < 7 by omega)
            have v2 := RQ.out.cell (show 2 < 7 by omega)
            have v3 := RQ.out.cell (show 3 < 7 by omega)
            have v4 := RQ.out.cell (show 4 < 7 by omega)
            have v5 := RQ.out.cell (show 5 < 7 by omega)
            have v6 := RQ.out.cell (show 6 < 7 by omega)
            dsimp only [modF] at v0 v1 v2 v3 v4 v5 v6
            clear r2 r3 hk1 hz1 HCC hcz hhas
            go_wp2_with fail
            obtain ⟨q2, q3, qb⟩ := mf_done R2.out R3.out c.h c.m c.ph c.pm (.slice A7 c.parts.length n7) (.slice A8 l8.length n8) (.slice none 0 0) 0 0
            have qb' := qb BN.out (Nat.le_refl _)
            have qk := mf_kep (P := fun k => w6.heap.size ≤ k ∧ k ≠ q) (W := W9) (g := w.heap.size) (fun h => by have := h.1; have := HNQ.out; omega) (fun h => by have := h.1; have := HNQ.out; omega) c.h c.m c.ph c.pm (.slice A7 c.parts.length n7) (.slice A8 l8.length n8) (.slice none 0 0) 0 0
            have qp : PrT _ (fun k => w.heap.size ≤ k) (.slice A7 c.parts.length n7) c.parts := HPT.out.keep (fun k hk hl => ((KN.out).trans qk).block k hl hk) ((KN.out).trans qk).size (fun k hk _ => by have := hk.1; have := HNQ.out; omega)
            unfold setMF at q2 q3 qb' qk qp
            (try simp only [Exit.inBlock, Exit.then])
            refine bodyPost_ret (mf_results rfl _ _ w.heap.size (w.heap.size + 1) rfl rfl q2 q3) rfl ?_
            refine ⟨.slice A7 c.parts.length n7, .slice A8 l8.length n8, .slice none 0 0, by rw [HCZ.out], by rw [HCZ.out]; exact qp, ?_, by rw [HCZ.out]; exact Ow.nil _ _, qb'⟩
            rw [HCZ.out]
            show Ow _ _ _ (stmtsC false c.code)
            rw [← HL8.out]
            exact (ow_kep ON.out qk (fun k hk => by have := HQ6.out; omega)).mono (by have := HQ6.out; have := HNQ.out; omega)
          | true =>
            rw [hhas] at h7
            have hcy := hcz.trans (if_pos hhas)
            have h6 := R4.out.cell (show 6 < 8 by omega)
            dsimp only [cfgF] at h6
            have HW9 := Lib.hid (show wc.heap.size ≤ W9.heap.size from KN.out.size)
            have hT9 : Tr W9 (fun k => W2.heap.size ≤ k) (.slice Aq c.post.len nq) c.post := HT6.out.2.2.below B69.out
            have HS2 := Lib.hid (stmts_any true c.post (.slice Aq c.post.len nq) (fun k => W2.heap.size ≤ k) W9 HGD.out.1.2 (by have := HGD.out; omega) hT9)
            clear hk1 hz1 HCC hcz hhas hT9
            go_wp2_with fail
            refine HS2.out.mono ?_
            rintro e w10 ⟨u10, rfl, ho10, hb10⟩
            obtain ⟨A10, n10, rfl, -⟩ := ho10.form
            have rq10 := below_row hb10 RQ.out RQ.out.lt
            have q6 := rq10.cell (show 6 < 7 by omega)
            have yq6 := rq10.frozen 6
            dsimp only [modF] at q6
            obtain ⟨l10, hl10⟩ : ∃ l10, l10 = stmtsC true c.post := ⟨_, rfl⟩
            rw [← hl10] at ho10 ⊢
            have HL10 := Lib.hid hl10
            have r2n := row_oth (below_row hb10 R2.out R2.out.lt) HNQ.out.1 6 (.slice A10 l10.length n10)
            have r3n := row_oth (below_row hb10 R3.out R3.out.lt) HNQ.out.2.1 6 (.slice A10 l10.length n10)
            have rqn := mod_setQ (.slice A10 l10.length n10) rq10
            have kn : Kep (fun k => w6.heap.size ≤ k ∧ k ≠ q) W9 (w10.setCell ⟨q, 6, none⟩ (.slice A10 l10.length n10)) := (Kep.below hb10).set (p := ⟨q, 6, none⟩) (fun h => h.2 rfl) _
            have bn : Below w.heap.size w (w10.setCell ⟨q, 6, none⟩ (.slice A10 l10.length n10)) := (BN.out.trans (hb10.mono BN.out.size)).setCell (p := ⟨q, 6, none⟩) HNQ.out.2.2.2.1 _
            have on := ow_kep (P := fun k => w6.heap.size ≤ k ∧ k ≠ q) ho10 ((Kep.refl _ w10).set (p := ⟨q, 6, none⟩) (fun h => h.2 rfl) (.slice A10 l10.length n10)) (fun k hk => by have := HQ6.out; have := HW9.out; omega)
            clear hb10 ho10 rq10 HS2 h6 h7 hl10
            go_upto_region 12 with fail
            generalize w10.setCell ⟨q, 6, none⟩ (.slice A10 l10.length n10) = W11 at *
            clear q6 yq6
            have R22 := Lib.hid r2n
            have R32 := Lib.hid r3n
            have RQ2 := Lib.hid rqn
            have KN2 := Lib.hid (KN.out.trans kn)
            have BN2 := Lib.hid bn
            have ON2 := Lib.hid (ow_kep ON.out kn (fun k hk => by have := HQ6.out; omega))
            have ON3 := Lib.hid on
            clear r2n r3n rqn kn bn on e1 e2
            obtain ⟨k2, hk2⟩ : ∃ k, k = stmtsE true c.post := ⟨_, rfl⟩
            rw [← hk2]
            by_cases hz2 : k2 = 0
            · have e1 : ((k2 : Int) == 0) = true := by rw [hz2]; rfl
              have e2 : ((k2 : Int) != 0) = false := by rw [hz2]; rfl
              have HCZ := Lib.hid (hcy.trans (if_neg (fun h => h (hk2.symm.trans hz2))))
              have r2 := R22.out
              have r3 := R32.out
              have u2 := r2.cell (show 0 < 7 by omega)
              have u21 := r2.cell (show 1 < 7 by omega)
              have u22 := r2.cell (show 2 < 7 by omega)
              have u23 := r2.cell (show 3 < 7 by omega)
              have u24 := r2.cell (show 4 < 7 by omega)
              have u25 := r2.cell (show 5 < 7 by omega)
              have u26 := r2.cell (show 6 < 7 by omega)
              have u3 := r3.cell (show 0 < 2 by omega)
              have u31 := r3.cell (show 1 < 2 by omega)
              dsimp only [modF, fltF] at u2 u21 u22 u23 u24 u25 u26 u3 u31
              have z20 := r2.frozen 0
              have z21 := r2.frozen 1
              have z22 := r2.frozen 2
              have z23 := r2.frozen 3
              have z24 := r2.frozen 4
              have z25 := r2.frozen 5
              have z26 := r2.frozen 6
              have z30 := r3.frozen 0
              have z31 := r3.frozen 1
              have v0 := RQ2.out.cell (show 0 < 7 by omega)
              have v1 := RQ2.out.cell (show 1 < 7 by omega)
              have v2 := RQ2.out.cell (show 2 < 7 by omega)
              have v3 := RQ2.out.cell (show 3 < 7 by omega)
              have v4 := RQ2.out.cell (show 4 < 7 by omega)
              have v5 := RQ2.out.cell (show 5 < 7 by omega)
              have v6 := RQ2.out.cell (show 6 < 7 by omega)
              dsimp only [modF] at v0 v1 v2 v3 v4 v5 v6
              clear r2 r3 hk2 hz2 hcy
              go_wp2_with fail
              obtain ⟨q2, q3, qb⟩ := mf_done R22.out R32.out c.h c.m c.ph c.pm (.slice A7 c.parts.length n7) (.slice A8 l8.length n8) (.slice A10 l10.length n10) 0 0
              have qb' := qb BN2.out (Nat.le_refl _)
              have qk := mf_kep (P := fun k => w6.heap.size ≤ k ∧ k ≠ q) (W := W11) (g := w.heap.size) (fun h => by have := h.1; have := HNQ.out; omega) (fun h => by have := h.1; have := HNQ.out; omega) c.h c.m c.ph c.pm (.slice A7 c.parts.length n7) (.slice A8 l8.length n8) (.slice A10 l10.length n10) 0 0
              have qp : PrT _ (fun k => w.heap.size ≤ k) (.slice A7 c.parts.length n7) c.parts := HPT.out.keep (fun k hk hl => ((KN2.out).trans qk).block k hl hk) ((KN2.out).trans qk).size (fun k hk _ => by have := hk.1; have := HNQ.out; omega)
              unfold setMF at q2 q3 qb' qk qp
              (try simp only [Exit.inBlock, Exit.then])
              refine bodyPost_ret (mf_results rfl _ _ w.heap.size (w.heap.size + 1) rfl rfl q2 q3) rfl ?_
              refine ⟨.slice A7 c.parts.length n7, .slice A8 l8.length n8, .slice A10 l10.length n10, by rw [HCZ.out], by rw [HCZ.out]; exact qp, ?_, ?_, qb'⟩
              · rw [HCZ.out]
                show Ow _ _ _ (stmtsC false c.code)
                rw [← HL8.out]
                exact (ow_kep ON2.out qk (fun k hk => by have := HQ6.out; omega)).mono (by have := HQ6.out; have := HNQ.out; omega)
              · rw [HCZ.out]
                show Ow _ _ _ (stmtsC true c.post)
                rw [← HL10.out]
                exact (ow_kep ON3.out qk (fun k hk => by have := HQ6.out; have := HW9.out; omega)).mono (by have := HQ6.out; have := HNQ.out; have := HW9.out; omega)
            · have e1 : ((k2 : Int) == 0) = false := by rw [beq_eq_false_iff_ne]; omega
              have e2 : ((k2 : Int) != 0) = true := by rw [bne_iff_ne]; omega
              have HCZ := Lib.hid (hcy.trans (if_pos (by rw [← hk2]; exact hz2)))
              rw [← hk2] at HCZ
              have r2 := R22.out
              have r3 := R32.out
              have u2 := r2.cell (show 0 < 7 by omega)
              have u21 := r2.cell (show 1 < 7 by omega)
              have u22 := r2.cell (show 2 < 7 by omega)
              have u23 := r2.cell (show 3 < 7 by omega)
              have u24 := r2.cell (show 4 < 7 by omega)
              have u25 := r2.cell (show 5 < 7 by omega)
              have u26 := r2.cell (show 6 < 7 by omega)
              have u3 := r3.cell (show 0 < 2 by omega)
              have u31 := r3.cell (show 1 < 2 by omega)
              dsimp only [modF, fltF] at u2 u21 u22 u23 u24 u25 u26 u3 u31
              have z20 := r2.frozen 0
              have z21 := r2.frozen 1
              have z22 := r2.frozen 2
              have z23 := r2.frozen 3
              have z24 := r2.frozen 4
              have z25 := r2.frozen 5
              have z26 := r2.frozen 6
              have z30 := r3.frozen 0
              have z31 := r3.frozen 1
              clear r2 r3 hk2 hz2 hcy
              go_wp2_with fail
              obtain ⟨q2, q3, qb⟩ := mf_done R22.out R32.out 0 0 0 0 (.slice none 0 0) (.slice none 0 0) (.slice none 0 0) (k2 : Int) 0
              have qb' := qb BN2.out (Nat.le_refl _)
              unfold setMF at q2 q3 qb'
              (try simp only [Exit.inBlock, Exit.then])
              refine bodyPost_ret (mf_results rfl _ _ w.heap.size (w.heap.size + 1) rfl rfl q2 q3) rfl ?_
              exact ⟨.slice none 0 0, .slice none 0 0, .slice none 0 0, by rw [HCZ.out]; rfl, by rw [HCZ.out]; exact PrT.nil _ _, by rw [HCZ.out]; exact Ow.nil _ _, by rw [HCZ.out]; exact Ow.nil _ _, qb'⟩
        · have e1 : ((k1 : Int) == 0) = false := by rw [beq_eq_false_iff_ne]; omega
          have e2 : ((k1 : Int) != 0) = true := by rw [bne_iff_ne]; omega
          have HCZ := Lib.hid (HCC.out.trans (if_pos (by rw [← hk1]; exact hz1)))
          rw [← hk1] at HCZ
          have r2 := R2.out
          have r3 := R3.out
          have u2 := r2.cell (show 0 < 7 by omega)
          have u21 := r2.cell (show 1 < 7 by omega)
          have u22 := r2.cell (show 2 < 7 by omega)
          have u23 := r2.cell (show 3 < 7 by omega)
          have u24 := r2.cell (show 4 < 7 by omega)
          have u25 := r2.cell (show 5 < 7 by omega)
          have u26 := r2.cell (show 6 < 7 by omega)
          have u3 := r3.cell (show 0 < 2 by omega)
          have u31 := r3.cell (show 1 < 2 by omega)
          dsimp only [modF, fltF] at u2 u21 u22 u23 u24 u25 u26 u3 u31
          have z20 := r2.frozen 0
          have z21 := r2.frozen 1
          have z22 := r2.frozen 2
          have z23 := r2.frozen 3
          have z24 := r2.frozen 4
          have z25 := r2.frozen 5
          have z26 := r2.frozen 6
          have z30 := r3.frozen 0
          have z31 := r3.frozen 1
          clear r2 r3 hk1 hz1 HCC
          go_wp2_with fail
          obtain ⟨q2, q3, qb⟩ := mf_done R2.out R3.out 0 0 0 0 (.slice none 0 0) (.slice none 0 0) (.slice none 0 0) (k1 : Int) 0
          have qb' := qb BN.out (Nat.le_refl _)
          unfold setMF at q2 q3 qb'
          (try simp only [Exit.inBlock, Exit.then])
          refine bodyPost_ret (mf_results rfl _ _ w.heap.size (w.heap.size + 1) rfl rfl q2 q3) rfl ?_
          exact ⟨.slice none 0 0, .slice none 0 0, .slice none 0 0, by rw [HCZ.out]; rfl, by rw [HCZ.out]; exact PrT.nil _ _, by rw [HCZ.out]; exact Ow.nil _ _, by rw [HCZ.out]; exact Ow.nil _ _, qb'⟩
    · have hz0 : (checkT c != 0) = true := by rw [bne_iff_ne]; exact hz
      have HCZ := Lib.hid (HC.out.trans (if_pos hz))
      obtain ⟨z, hze⟩ : ∃ z, z = checkT c := ⟨_, rfl⟩
      rw [← hze] at hz0 HCZ ⊢
      have u2 := r2.cell (show 0 < 7 by omega)
      have u21 := r2.cell (show 1 < 7 by omega)
      have u22 := r2.cell (show 2 < 7 by omega)
      have u23 := r2.cell (show 3 < 7 by omega)
      have u24 := r2.cell (show 4 < 7 by omega)
      have u25 := r2.cell (show 5 < 7 by omega)
      have u26 := r2.cell (show 6 < 7 by omega)
      have u3 := r3.cell (show 0 < 2 by omega)
      have u31 := r3.cell (show 1 < 2 by omega)
      dsimp only [modF, fltF] at u2 u21 u22 u23 u24 u25 u26 u3 u31
      have z20 := r2.frozen 0
      have z21 := r2.frozen 1
      have z22 := r2.frozen 2
      have z23 := r2.frozen 3
      have z24 := r2.frozen 4
      have z25 := r2.frozen 5
      have z26 := r2.frozen 6
      have z30 := r3.frozen 0
      have z31 := r3.frozen 1
      clear r2 r3 hz HC hze
      go_wp2_with fail
      obtain ⟨q2, q3, qb⟩ := mf_done HR26.out HR36.out 0 0 0 0 (.slice none 0 0) (.slice none 0 0) (.slice none 0 0) z 0
      have qb' := qb HB6.out (Nat.le_refl _)
      unfold setMF at q2 q3 qb'
      (try simp only [Exit.inBlock, Exit.then])
      refine bodyPost_ret (mf_results rfl _ _ w.heap.size (w.heap.size + 1) rfl rfl q2 q3) rfl ?_
      exact ⟨.slice none 0 0, .slice none 0 0, .slice none 0 0, by rw [HCZ.out]; rfl, by rw [HCZ.out]; exact PrT.nil _ _, by rw [HCZ.out]; exact Ow.nil _ _, by rw [HCZ.out]; exact Ow.nil _ _, qb'⟩
  · have hx0 : ((x : Int) != 0) = true := by rw [bne_iff_ne]; omega
    have u2 := r2.cell (show 0 < 7 by omega)
    have u21 := r2.cell (show 1 < 7 by omega)
    have u22 := r2.cell (show 2 < 7 by omega)
    have u23 := r2.cell (show 3 < 7 by omega)
    have u24 := r2.cell (show 4 < 7 by omega)
    have u25 := r2.cell (show 5 < 7 by omega)
    have u26 := r2.cell (show 6 < 7 by omega)
    have u3 := r3.cell (show 0 < 2 by omega)
    have u31 := r3.cell (show 1 < 2 by omega)
    dsimp only [modF, fltF] at u2 u21 u22 u23 u24 u25 u26 u3 u31
    have z20 := r2.frozen 0
    have z21 := r2.frozen 1
    have z22 := r2.frozen 2
    have z23 := r2.frozen 3
    have z24 := r2.frozen 4
    have z25 := r2.frozen 5
    have z26 := r2.frozen 6
    have z30 := r3.frozen 0
    have z31 := r3.frozen 1
    have HC := Lib.hid (show compR (parseT s) = (mod0, (x : Int), (y : Int)) by rw [HCR.out]; unfold compK; rw [if_pos hx])
    clear r2 r3 r4 r5 hx
    have n1 : w.heap.size ≠ w3.heap.size + 1 := by have := HGE.out; omega
    have n2 : w3.heap.size + 1 ≠ w.heap.size := by have := HGE.out; omega
    have n3 : w.heap.size ≠ w3.heap.size := by have := HGE.out; omega
    have n4 : w3.heap.size ≠ w.heap.size := by have := HGE.out; omega
    go_upto_region 3 with fail
    go_region
    all_goals
      go_wp2_with fail
      obtain ⟨q2, q3, qb⟩ := mf_done HR2.out HR3.out 0 0 0 0 (.slice none 0 0) (.slice none 0 0) (.slice none 0 0) (x : Int) (y : Int)
      have qb' := qb HBX.out (Nat.le_refl _)
      unfold setMF at q2 q3 qb'
      have q2' := row_drew q2
      have q3' := row_drew q3
      have qb2 := below_drew1 qb'
      (try simp only [Exit.inBlock, Exit.then])
      refine bodyPost_ret (mf_results rfl _ _ w.heap.size (w.heap.size + 1) rfl rfl q2' q3') rfl ?_
      exact ⟨.slice none 0 0, .slice none 0 0, .slice none 0 0, by rw [HC.out]; rfl, by rw [HC.out]; exact PrT.nil _ _, by rw [HC.out]; exact Ow.nil _ _, by rw [HC.out]; exact Ow.nil _ _, qb2⟩
end Go.Proofs.Ythmpagehmfillaa
