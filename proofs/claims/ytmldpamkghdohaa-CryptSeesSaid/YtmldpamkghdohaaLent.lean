/-
  LENT AND KEPT SLICES, IN THE FORM THAT A LAW's WALK WANTS.
-/
import Derived.Test.YtmldpamkghdohaaSlices2
namespace Go.Proofs.Ytmldpamkghdohaa
open Go.RowKit
set_option linter.unusedSimpArgs false
set_option linter.unusedVariables false

theorem lentb_n (A : Option Addr) (n c : Nat) (l : List Nat) (w : World) (hn : n = l.length) (h : Rd w A l) (hl : l.length ≤ 140737488355320) :
    Calls Try.prog 17 #[.slice A n c] w fun e w' => ∃ g c', e = .returned (.slice (some ⟨g, 0, none⟩) l.length c') ∧ Lent w' w.heap.size (.slice (some ⟨g, 0, none⟩) l.length c') l ∧ Below w.heap.size w w' := by
  subst hn
  refine (lentb_any A c l w h hl).mono fun e w' ⟨v, he, hv, hb⟩ => ?_
  obtain ⟨g, c', rfl, r⟩ := hv
  exact ⟨g, c', he, ⟨g, c', rfl, r⟩, hb⟩
theorem kept_n (v : Value) (base : Nat) (A2 : Option Addr) (n c2 : Nat) (l : List Nat) (w : World) (hn : n = l.length) (hv : Lent w base v l) (h : Rd w A2 l) (hl : l.length ≤ 140737488355320) :
    Calls Try.prog 18 #[v, .slice A2 n c2] w fun e w' => e = .returned (.bool true) ∧ Below w.heap.size w w' := by
  subst hn
  exact kept_lent v base A2 c2 l w hv h hl
theorem Lent.app {w : World} {base g c n : Nat} {l : List Nat} (h : Lent w base (.slice (some ⟨g, 0, none⟩) n c) l) : Rd w (some ⟨g, 0, none⟩) l := by
  obtain ⟨g', c', e, _, _, hr⟩ := h
  injection e with e1
  injection e1 with e1
  injection e1 with e1
  subst e1
  refine ⟨fun x hx => hr.1 x (by simp [hx]), fun hn => ?_⟩
  obtain ⟨g, o, e, hg, hc⟩ := hr.2 (by simp [hn])
  refine ⟨g, o, e, hg, fun i hi => ?_⟩
  rw [hc i (by simp; omega)]
  simp [nth, List.getElem?_append_left hi]
theorem rd_takeL {w : World} {A : Option Addr} {l : List Nat} (h : Rd w A l) (k : Nat) : Rd w A (l.take k) := by
  refine ⟨fun x hx => h.1 x (List.mem_of_mem_take hx), fun hn => ?_⟩
  obtain ⟨g, o, e, hg, hc⟩ := h.2 (by rintro rfl; simp at hn)
  refine ⟨g, o, e, hg, fun i hi => ?_⟩
  rw [List.length_take] at hi
  rw [hc i (by omega)]
  simp [nth, List.getElem?_take, show i < k by omega]
theorem same_yes (A1 A2 : Option Addr) (n1 n2 c1 c2 : Nat) (a : List Nat) (w : World) (h1 : n1 = a.length) (h2 : n2 = a.length) (ha : Rd w A1 a) (hb : Rd w A2 a) (hla : a.length ≤ 9223372036854775807) :
    Calls Try.prog 15 #[.slice A1 n1 c1, .slice A2 n2 c2] w fun e w' => e = .returned (.bool true) ∧ Below w.heap.size w w' := by
  subst h1
  have hs : sameB a a = true := by simp [sameB]
  have h2' := h2
  subst h2
  refine (same_any A1 A2 c1 c2 a a w ha hb hla hla).mono fun e w' h => ?_
  obtain ⟨rfl, n, rfl⟩ := h
  rw [hs]
  exact ⟨rfl, below_drewN' (Below.refl _ _) n⟩
end Go.Proofs.Ytmldpamkghdohaa
