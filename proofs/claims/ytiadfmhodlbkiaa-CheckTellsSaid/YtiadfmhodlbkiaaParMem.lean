/-
  A PARSER IN MEMORY: its row, the tokens that stand ahead. Conditions: none.
-/
import Derived.Test.YtiadfmhodlbkiaaLexTok
import Derived.Test.YtiadfmhodlbkiaaParSpec
namespace Go.Proofs.Ytiadfmhodlbkiaa
open Go.RowKit
set_option linter.unusedSimpArgs false
set_option linter.unusedVariables false

def erO (b : Option Flt) : Nat := match b with
  | none => 0
  | some e => e.1
def lnO (b : Option Flt) : Nat := match b with
  | none => 0
  | some e => e.2
/-- A token lies at a place. -/
def TokAt (w : World) (g o : Nat) (t : Tok) : Prop :=
  w.cell? ⟨g, o, none⟩ = some (.int .u8 t.k) ∧ w.cell? ⟨g, o + 1, none⟩ = some (.string (mkS t.s)) ∧ w.cell? ⟨g, o + 2, none⟩ = some (.int .i64 t.n) ∧ w.cell? ⟨g, o + 3, none⟩ = some (.int .i64 t.ln)
def TksAt (w : World) (g o : Nat) (l : List Tok) : Prop := ∀ i (hi : i < l.length), TokAt w g (o + i * 4) l[i]
theorem TksAt.tail {w : World} {g o : Nat} {l : List Tok} (h : TksAt w g o l) : TksAt w g (o + 4) l.tail := by
  intro i hi
  have hi' : i + 1 < l.length := by rw [List.length_tail] at hi; omega
  have := h (i + 1) hi'
  rw [show o + (i + 1) * 4 = o + 4 + i * 4 by omega] at this
  rw [List.getElem_tail]
  exact this
theorem TksAt.head {w : World} {g o : Nat} {l : List Tok} (h : TksAt w g o l) (hl : TL l) : TokAt w g o (hd l) := by
  cases l with
  | nil => exact absurd rfl hl.ne
  | cons a r => exact h 0 (by simp)
theorem TokAt.keep {w w' : World} {g o : Nat} {t : Tok} (h : TokAt w g o t) (hb : w'.heap[g]? = w.heap[g]?) : TokAt w' g o t :=
  have e : ∀ k, w'.cell? ⟨g, k, none⟩ = w.cell? ⟨g, k, none⟩ := fun k => World.cell?_of_block hb
  ⟨(e _).trans h.1, (e _).trans h.2.1, (e _).trans h.2.2.1, (e _).trans h.2.2.2⟩
theorem TksAt.keep {w w' : World} {g o : Nat} {l : List Tok} (h : TksAt w g o l) (hb : w'.heap[g]? = w.heap[g]?) : TksAt w' g o l := fun i hi => (h i hi).keep hb
theorem mkS_inj {a b : List Nat} (ha : ∀ x ∈ a, x < 256) (hb : ∀ x ∈ b, x < 256) (h : mkS a = mkS b) : a = b := by rw [← strB_mkS ha, ← strB_mkS hb, h]
theorem mkS_eq {a b : List Nat} (ha : ∀ x ∈ a, x < 256) (hb : ∀ x ∈ b, x < 256) : ((mkS a).toList == (mkS b).toList) = decide (a = b) := by
  rw [str_eq, strB_mkS ha, strB_mkS hb]
def psF (v : Value) (b : Option Flt) (many : Nat) : Nat → Value
  | 0 => v
  | 1 => .int .i64 (erO b : Nat)
  | 2 => .int .i64 (lnO b : Nat)
  | _ => .int .i64 many
/-- The program's parser. -/
structure PS (B : Nat) (w : World) (gp : Nat) (l : List Tok) (b : Option Flt) (many : Nat) : Prop where
  ex : ∃ g o c, w.rowIs gp 50 4 (psF (.slice (some ⟨g, o, none⟩) l.length c) b many) ∧ g ≠ gp ∧ g < B ∧ l.length ≤ c ∧ c ≤ maxLen ∧ TksAt w g o l
  tl : TL l
  er : ∀ e, b = some e → e.1 ≠ 0
  le : many ≤ 501
  ll : l.length ≤ 20000
  bp : gp < B
  bw : B ≤ w.heap.size
section
variable {w w' : World} {B gp : Nat} {l : List Tok} {b : Option Flt} {many : Nat}
theorem PS.lt (h : PS B w gp l b many) : gp < w.heap.size := by
  obtain ⟨g, o, c, h1, -⟩ := h.ex
  exact h1.lt
theorem PS.kept {row : Option Nat} (h : PS B w gp l b many) (hg : w.grownBy w' row) (hr : ∀ k, row = some k → B ≤ k) : PS B w' gp l b many := by
  obtain ⟨g, o, c, q1, q2, q3, q4, q5, q6⟩ := h.ex
  have hb := h.bp
  have hw := h.bw
  exact ⟨⟨g, o, c, q1.of_block (hg.block gp q1.lt (fun e => by have := hr gp e.symm; omega)), q2, q3, q4, q5, q6.keep (hg.block g (by omega) (fun e => by have := hr g e.symm; omega))⟩, h.tl, h.er, h.le, h.ll, hb, Nat.le_trans hw hg.size⟩
/-- Only new blocks. -/
theorem PS.below (h : PS B w gp l b many) (hb : Below w.heap.size w w') : PS B w' gp l b many :=
  h.kept (row := none) (grown_of_below hb none) (fun k e => by cases e)
/-- A young block written. -/
theorem PS.off (h : PS B w gp l b many) {p : Addr} (hp : B ≤ p.block) (u : Value) : PS B (w.setCell p u) gp l b many :=
  h.kept (row := some p.block) (grown_set (grown_refl _ _) (.inl rfl) u) (fun k e => by injection e with e; omega)
theorem PS.setF (h : PS B w gp l none many) {e ln : Nat} (h0 : e ≠ 0) : PS B ((w.setCell ⟨gp, 1, none⟩ (.int .i64 e)).setCell ⟨gp, 2, none⟩ (.int .i64 ln)) gp l (some (e, ln)) many := by
  obtain ⟨g, o, c, q1, q2, q3, q4, q5, q6⟩ := h.ex
  refine ⟨⟨g, o, c, ((q1.set 1 _).set 2 _).congr fun i hi => ?_, q2, q3, q4, q5, q6.keep ?_⟩, h.tl, fun e' he => by injection he with he; subst he; exact h0, h.le, h.ll, h.bp, by simpa [World.setCell] using h.bw⟩
  · match i, hi with
    | 0, _ => rfl
    | 1, _ => rfl
    | 2, _ => rfl
    | 3, _ => rfl
  · exact (grown_set (grown_set (grown_refl w (some gp)) (.inl rfl) _) (.inl rfl) _).block g (by have := h.bw; omega) (fun e => q2 (by injection e))
theorem PS.setM (h : PS B w gp l b many) {m : Nat} (hm : m ≤ 501) : PS B (w.setCell ⟨gp, 3, none⟩ (.int .i64 m)) gp l b m := by
  obtain ⟨g, o, c, q1, q2, q3, q4, q5, q6⟩ := h.ex
  refine ⟨⟨g, o, c, (q1.set 3 _).congr fun i hi => ?_, q2, q3, q4, q5, q6.keep ?_⟩, h.tl, h.er, hm, h.ll, h.bp, by simpa [World.setCell] using h.bw⟩
  · match i, hi with
    | 0, _ => rfl
    | 1, _ => rfl
    | 2, _ => rfl
    | 3, _ => rfl
  · exact (grown_set (grown_refl w (some gp)) (.inl rfl) _).block g (by have := h.bw; omega) (fun e => q2 (by injection e))
theorem PS.setL (h : PS B w gp l b many) {g o c n : Nat} (hc : w.cell? ⟨gp, 0, none⟩ = some (.slice (some ⟨g, o, none⟩) l.length c)) (hl : 1 < l.length) (ht : TL l.tail) (hn : n = l.tail.length) : PS B (w.setCell ⟨gp, 0, none⟩ (.slice (some ⟨g, o + 4, none⟩) n (c - 1))) gp l.tail b many := by
  obtain ⟨g', o', c', q1, q2, q3, q4, q5, q6⟩ := h.ex
  have e := (q1.cell (show 0 < 4 by omega)).symm.trans hc
  injection e with e
  injection e with e e2 e3
  injection e with e
  injection e with e e1
  subst e; subst e1; subst e3; subst hn
  refine ⟨⟨g', o' + 4, c' - 1, (q1.set 0 _).congr fun i hi => ?_, q2, by simpa [World.setCell] using q3, by rw [List.length_tail]; omega, by omega, q6.tail.keep ?_⟩, ht, h.er, h.le, by have := h.ll; rw [List.length_tail]; omega, h.bp, by simpa [World.setCell] using h.bw⟩
  · match i, hi with
    | 0, _ => rfl
    | 1, _ => rfl
    | 2, _ => rfl
    | 3, _ => rfl
  · exact (grown_set (grown_refl w (some gp)) (.inl rfl) _).block g' (by have := h.bw; omega) (fun e => q2 (by injection e))
theorem er_eq (h : PS B w gp l b many) : decide ((erO b : Int) = 0) = b.isNone := by
  cases b with
  | none => rfl
  | some e => have := h.er e rfl; exact decide_eq_false (by show ¬ ((e.1 : Nat) : Int) = 0; omega)
end
end Go.Proofs.Ytiadfmhodlbkiaa
