/-
  quillpresslow.KeptBytes at what LentBytes handed out. Conditions: none on the room behind.
-/
import Derived.Test.YtmldpamkghdohaaSlices
namespace Go.Proofs.Ytmldpamkghdohaa
open Go.RowKit
set_option linter.unusedSimpArgs false
set_option linter.unusedVariables false

theorem Lent.below {w w' : World} {base : Nat} {v : Value} {l : List Nat} (h : Lent w base v l) (hb : Below w.heap.size w w') : Lent w' base v l := by
  obtain ⟨g, c, rfl, h1, h2, h3⟩ := h
  exact ⟨g, c, rfl, h1, h2, h3.below hb⟩
set_option maxHeartbeats 400000 in
theorem kept_lent (v : Value) (base : Nat) (A2 : Option Addr) (c2 : Nat) (l : List Nat) (w : World) (hv : Lent w base v l) (h : Rd w A2 l) (hl : l.length ≤ 140737488355320) :
    Calls Try.prog 18 #[v, .slice A2 l.length c2] w fun e w' => e = .returned (.bool true) ∧ Below w.heap.size w w' := by
  obtain ⟨g, c, rfl, hc, hg, hm⟩ := hv
  have HM := Lib.hid hm
  have HA := Lib.hid h
  clear hm h
  have hc2 : (l.length : Int) + 4 ≤ c := by omega
  have hc3 : (0 : Int) ≤ (l.length : Int) + 4 := by omega
  have hc4 : IntKind.i64.wrap ((l.length : Int) + 4) = (l.length : Int) + 4 := IntWalk.i64_in _ ⟨by omega, by omega⟩
  have hc5 : ((l.length : Int) + 4).toNat = l.length + 4 := by omega
  go_enter Try.func18, Try.ntmps18
  go_wp2_with fail
  go_region_held3 (fun _ => True) (exact trivial) (first
    | (go_at_call 52; (refine (lent_any A2 l.length c2 l _ rfl (by exact HA.out) hl).mono ?_); rintro e w1 ⟨v, rfl, ho, hb⟩; obtain ⟨A3, c3, rfl, _, _, hr3⟩ := ho.form; have HB : Hid (Below w.heap.size w w1) := ⟨hb.os, hb.tape, hb.output, hb.size, hb.block⟩; have HR3 := Lib.hid hr3; clear ho hb hr3)
    | (go_at_call 51; (refine (equal_n (some ⟨g, 0, none⟩) A3 (l.length + 4) (l.length + tailB.length) c c3 (l ++ tailB) (l ++ tailB) w1 (by simp [tailB]) (by rw [List.length_append]) (HM.out.below HB.out) HR3.out (by simp [tailB]; omega) (by simp [tailB]; omega)).mono ?_); rintro e w2 ⟨rfl, nn, rfl⟩))
  go_wp2
  go_ret
  exact ⟨by rw [show sameB (l ++ tailB) (l ++ tailB) = true by simp [sameB]]; rfl, below_drewN' (HB.out) _⟩
end Go.Proofs.Ytmldpamkghdohaa
