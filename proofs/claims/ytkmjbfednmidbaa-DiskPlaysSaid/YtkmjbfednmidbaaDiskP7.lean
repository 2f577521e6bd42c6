/-
  BOTH DISKS BESIDE ONE ANOTHER IN MEMORY; calls on them. Conditions: each law's own premises.
-/
import Derived.Test.YtkmjbfednmidbaaDiskP6
namespace Go.Proofs.Ytkmjbfednmidbaa
open Go.RowKit
set_option linter.unusedSimpArgs false
set_option linter.unusedVariables false

theorem crLeft_rc {k : Nat} {d : DkS} {r : RfS} (h : DR k d r) (keep : Int) (junk : List Nat) : rcLeft r keep junk = crLeft d keep junk := by
  unfold rcLeft crLeft rcBase
  rw [h.now, h.old, h.floor]
theorem DR.crash {k : Nat} {d : DkS} {r : RfS} (h : DR k d r) (keep : Int) (junk : List Nat) : DR (k + 1) (crashD d (crLeft d keep junk)) (r.crash (rcLeft r keep junk)) := by
  rw [crLeft_rc h]
  exact ⟨h.most, rfl, rfl, rfl, rfl, .inl ⟨rfl, rfl⟩, .inl ⟨rfl, rfl⟩, .inl rfl, Nat.le_refl _⟩
/-- The program's disk at g, the document's in the block gb. -/
structure PS (w0 w : World) (base g : Nat) (nb ob : Option Nat) (d : DkS) (gb : Nat) (r : RfS) (k : Nat) : Prop where
  dk : Dk w g nb ob d
  bg : base ≤ g
  bn : ∀ x, nb = some x → base ≤ x
  bo : ∀ x, ob = some x → base ≤ x
  bb : base ≤ gb
  gg : gb ≠ g
  gn : nb ≠ some gb
  go : ob ≠ some gb
  box : ∃ A c B e, w.heap[gb]? = some (.cells (rfC r A B c e) 63 (0, 0)) ∧ RfV w (.agg (rfC r A B c e)) r
  dr : DR k d r
  below : Below base w0 w
  sz : base ≤ w0.heap.size
section
variable {w0 w w' : World} {base g gb k : Nat} {nb ob : Option Nat} {d d' : DkS} {r r' : RfS}
theorem PS.gl (h : PS w0 w base g nb ob d gb r k) : gb < w.heap.size := by obtain ⟨A, c, B, e, h1, _⟩ := h.box; exact lt_of_block h1
theorem PS.le (h : PS w0 w base g nb ob d gb r k) : base ≤ w.heap.size := Nat.le_trans h.sz h.below.size
theorem PS.bel (h : PS w0 w base g nb ob d gb r k) (hb : Below w.heap.size w w') : PS w0 w' base g nb ob d gb r k := by
  obtain ⟨A, c, B, e, h1, h2⟩ := h.box
  exact ⟨h.dk.below hb, h.bg, h.bn, h.bo, h.bb, h.gg, h.gn, h.go, ⟨A, c, B, e, (hb.block gb (lt_of_block h1)).trans h1, h2.below hb⟩, h.dr, h.below.trans (hb.mono h.le), h.sz⟩
/-- A call of the program on its disk; then the document's on its own: what is left to be shown. -/
structure PA (w0 w : World) (base g : Nat) (nb ob : Option Nat) (d : DkS) (gb : Nat) (r : RfS) : Prop where
  dk : Dk w g nb ob d
  bg : base ≤ g
  bn : ∀ x, nb = some x → base ≤ x
  bo : ∀ x, ob = some x → base ≤ x
  bb : base ≤ gb
  gg : gb ≠ g
  gn : nb ≠ some gb
  go : ob ≠ some gb
  box : ∃ A c B e, w.heap[gb]? = some (.cells (rfC r A B c e) 63 (0, 0)) ∧ RfV w (.agg (rfC r A B c e)) r
  below : Below base w0 w
  sz : base ≤ w0.heap.size
theorem PS.pa (h : PS w0 w base g nb ob d gb r k) : PA w0 w base g nb ob d gb r := ⟨h.dk, h.bg, h.bn, h.bo, h.bb, h.gg, h.gn, h.go, h.box, h.below, h.sz⟩
theorem PA.ps (h : PA w0 w base g nb ob d gb r) (hd : DR k d r) : PS w0 w base g nb ob d gb r k := ⟨h.dk, h.bg, h.bn, h.bo, h.bb, h.gg, h.gn, h.go, h.box, hd, h.below, h.sz⟩
theorem PA.le (h : PA w0 w base g nb ob d gb r) : base ≤ w.heap.size := Nat.le_trans h.sz h.below.size
theorem PA.gl (h : PA w0 w base g nb ob d gb r) : gb < w.heap.size := by obtain ⟨A, c, B, e, h1, _⟩ := h.box; exact lt_of_block h1
theorem PA.bel (h : PA w0 w base g nb ob d gb r) (hb : Below w.heap.size w w') : PA w0 w' base g nb ob d gb r := by
  obtain ⟨A, c, B, e, h1, h2⟩ := h.box
  exact ⟨h.dk.below hb, h.bg, h.bn, h.bo, h.bb, h.gg, h.gn, h.go, ⟨A, c, B, e, (hb.block gb (lt_of_block h1)).trans h1, h2.below hb⟩, h.below.trans (hb.mono h.le), h.sz⟩
theorem PS.after (h : PS w0 w base g nb ob d gb r k) (ha : After w g nb ob d' w') : ∃ nb' ob', PA w0 w' base g nb' ob' d' gb r := by
  obtain ⟨nb', ob', h1, h2, h3, h4⟩ := ha
  obtain ⟨A, c, B, e, k1, k2⟩ := h.box
  have hgl := lt_of_block k1
  have key : ∀ x : Option Nat, (New w nb x ∨ New w ob x) → (∀ j, x = some j → base ≤ j) ∧ x ≠ some gb := by
    intro x hn
    refine ⟨fun j e => ?_, fun e => ?_⟩
    · rcases hn with (rfl | hn) | (rfl | hn)
      · exact h.bn j e
      · exact Nat.le_trans h.le (hn j e)
      · exact h.bo j e
      · exact Nat.le_trans h.le (hn j e)
    · rcases hn with (rfl | hn) | (rfl | hn)
      · exact h.gn e
      · have := hn _ e; omega
      · exact h.go e
      · have := hn _ e; omega
  exact ⟨nb', ob', h1, h.bg, (key nb' h2).1, (key ob' h3).1, h.bb, h.gg, (key nb' h2).2, (key ob' h3).2, ⟨A, c, B, e, (h4.block gb hgl (by intro e; injection e with e; exact h.gg e)).trans k1, k2.dk h.dk h4⟩, below_of_grown h.below h4 h.le h.bg, h.sz⟩
/-- A value of the document's is laid into its block. -/
theorem PA.store (h : PA w0 w base g nb ob d gb r) (hb : Below w.heap.size w w') {A B : Option Addr} {c e : Nat} (hv : RfV w' (.agg (rfC r' A B c e)) r') : PA w0 (w'.setRow gb (rfC r' A B c e)) base g nb ob d gb r' := by
  obtain ⟨A0, c0, B0, e0, k1, k2⟩ := h.box
  have hgl := lt_of_block k1
  have k1' := (hb.block gb hgl).trans k1
  have hg : w'.grownBy (w'.setRow gb (rfC r' A B c e)) (some gb) := ⟨rfl, rfl, rfl, by simp, fun x _ hne => setRow_other w' gb x _ (fun e => hne (by rw [e]))⟩
  obtain ⟨A1, c1, B1, e1, q1, q2, q3, q4, q5, q6⟩ := hv
  refine ⟨(h.dk.below hb).grown hg (fun e => by injection e with e; exact h.gg e) (fun x e e2 => h.gn (by rw [e, ← e2])) (fun x e e2 => h.go (by rw [e, ← e2])), h.bg, h.bn, h.bo, h.bb, h.gg, h.gn, h.go, ⟨A, c, B, e, setRow_heap _ _ _ _ _ _ k1', A1, c1, B1, e1, q1, q2, q3, q4.grownRow k1' (rfC_no _ _ _ _ _) hg, q5.grownRow k1' (rfC_no _ _ _ _ _) hg, q6⟩, below_setRow (h.below.trans (hb.mono h.le)) h.bb _, h.sz⟩
/-- The value in the block. -/
theorem PA.val (h : PA w0 w base g nb ob d gb r) : ∃ A c B e, w.heap[gb]? = some (.cells (rfC r A B c e) 63 (0, 0)) ∧ RfV w (.agg (rfC r A B c e)) r := h.box
theorem PA.dr {k k' : Nat} (h : PA w0 w base g nb ob d gb r) (hd : DR k d r) (hk : k ≤ k') : PS w0 w base g nb ob d gb r k' := h.ps (hd.mono hk)
theorem Lent.dk {v : Value} {l : List Nat} {b : Nat} (h : Lent w b v l) (hd : Dk w g nb ob d) (hg : w.grownBy w' (some g)) : Lent w' b v l := by
  obtain ⟨gl, c, h1, h2, h3, h4⟩ := h
  exact ⟨gl, c, h1, h2, h3, hd.rd h4 hg⟩
theorem Lent.grownRow {v : Value} {l : List Nat} {b : Nat} (h : Lent w b v l) {g : Nat} {cs : Array Value} {t : TypeId} (hg : w.heap[g]? = some (.cells cs t (0, 0))) (hc : ∀ (i : Nat) (x : Int), cs[i]? ≠ some (Value.int .u8 x)) (hw : w.grownBy w' (some g)) : Lent w' b v l := by
  obtain ⟨gl, c, h1, h2, h3, h4⟩ := h
  exact ⟨gl, c, h1, h2, h3, h4.grownRow hg hc hw⟩
theorem setRow_grown (w : World) (g : Nat) (C : Array Value) : w.grownBy (w.setRow g C) (some g) := ⟨rfl, rfl, rfl, by simp, fun x _ hne => setRow_other w g x _ (fun e => hne (by rw [e]))⟩
theorem pl_append {g : Nat} {nb ob : Option Nat} {d : DkS} {w : World} (h : Dk w g nb ob d) (A : Option Addr) (n c : Nat) (m : List Nat) (hn : n = m.length) (hm : m.length ≤ 5000000) (hr : Rd w A m) :
    Calls Try.prog 19 #[.pointer (some ⟨g, 0, none⟩), .slice A n c] w (Ret fun r w' => After w g nb ob (d.append m).2 w' ∧ r = (d.append m).1) := by
  subst hn
  exact append_any h A c m hm hr
theorem rfV_form {w : World} {v : Value} {r : RfS} (h : RfV w v r) : ∃ A B c e, v = .agg (rfC r A B c e) := by
  obtain ⟨A, c, B, e, h1, _⟩ := h
  exact ⟨A, B, c, e, h1⟩
end
end Go.Proofs.Ytkmjbfednmidbaa
