/-
  THE WALK OF quillpresslaw03.DigestTells: it returns true. Conditions: the argument reads as a list of bytes.
-/
import Derived.Test.YtbnhjhdbjffnkabShaR2
import Derived.Test.YtbnhjhdbjffnkabShaA
import Derived.Test.YtbnhjhdbjffnkabSlices2
namespace Go.Proofs.Ytbnhjhdbjffnkab
open Go.RowKit
set_option linter.unusedSimpArgs false
set_option linter.unusedVariables false

def shaC (l : List Nat) : Array Value := ((sha l).map fun x => Value.int .u8 (x : Nat)).toArray
theorem shaC_eq (l : List Nat) (V : World) : (Op.equalIn 10000 30 (.agg (shaC l)) (.agg (shaC l))).run Try.prog V = .ok true V := by
  have hz : ∀ i, i < 32 → (shaC l)[i]? = some (.int .u8 (nth (sha l) i : Nat)) := by
    intro i hi
    have : i < (sha l).length := by rw [sha_length]; exact hi
    rw [nth_get this]
    simp [shaC, this]
  have := run_equalIn_bytes V 9998 30 32 (shaC l) (shaC l) (nth (sha l)) (nth (sha l)) Try.underlying30 hz hz
  rw [show sameN (nth (sha l)) (nth (sha l)) 32 = true by rw [sameN_iff]; intros; rfl] at this
  exact this
theorem of_c (A : Option Addr) (n c : Nat) (m : List Nat) (w : World) (hn : n = m.length) (hm : m.length ≤ 35184372088832) (hr : Rd w A m) : Calls Try.prog 13 #[.slice A n c] w fun e w' => e = .returned (.agg (shaC m)) ∧ Below w.heap.size w w' := by
  subst hn
  exact (of_any A c m w hm hr).mono fun e w' ⟨he, hb⟩ => ⟨he, hb⟩
theorem ref_c (A : Option Addr) (n c : Nat) (m : List Nat) (w : World) (hn : n = m.length) (hm : m.length ≤ 17592186044416) (hr : Rd w A m) : Calls Try.prog 16 #[.slice A n c] w fun e w' => e = .returned (.agg (shaC m)) ∧ Below w.heap.size w w' := by
  subst hn
  exact (refOf_any A c m w hm hr).mono fun e w' ⟨he, hb⟩ => ⟨he, hb⟩
theorem Rd.app {w : World} {A : Option Addr} {l m : List Nat} (h : Rd w A (l ++ m)) : Rd w A l := by
  refine ⟨fun x hx => h.1 x (by simp [hx]), fun hn => ?_⟩
  obtain ⟨g, o, e, hg, hc⟩ := h.2 (by simp [hn])
  refine ⟨g, o, e, hg, fun i hi => ?_⟩
  rw [hc i (by simp; omega)]
  simp [nth, List.getElem?_append_left hi]
set_option maxRecDepth 100000 in
set_option maxHeartbeats 2000000 in
theorem digestTells_any (A : Option Addr) (c : Nat) (b : List Nat) (w : World) (hA : Rd w A b) :
    Calls Try.prog 4 #[.slice A b.length c] w fun e w' => e = .returned (.bool true) ∧ Below w.heap.size w w' := by
  by_cases h : b.length ≤ 5000
  · have i1 : ¬ (5000 : Int) < b.length := by omega
    have HA := Lib.hid hA
    clear hA
    go_enter Try.func4, Try.ntmps4
    go_wp2_with fail
    refine (lentb_any A c b _ HA.out (by omega)).mono ?_
    rintro e w1 ⟨v1, rfl, hv1, hb1⟩
    obtain ⟨g1, c1, rfl, hc1, hg1, hr1⟩ := hv1
    have HV : Hid (Lent w1 w.heap.size (.slice (some ⟨g1, 0, none⟩) b.length c1) b) := ⟨g1, c1, rfl, hc1, hg1, hr1⟩
    have HR := Lib.hid hr1.app
    have HB := Lib.hid hb1
    clear hr1 hb1
    go_wp2_with fail
    refine (of_c _ _ _ b w1 rfl (by omega) HR.out).mono ?_
    rintro e w2 ⟨rfl, hb2⟩
    replace HV := Lib.hid (HV.out.below hb2)
    replace HB := Lib.hid (HB.out.trans (hb2.mono HB.out.size))
    clear hb2 HR
    go_wp2_with fail
    refine (ref_c A _ _ b w2 rfl (by omega) (HA.out.below HB.out)).mono ?_
    rintro e w3 ⟨rfl, hb3⟩
    replace HV := Lib.hid (HV.out.below hb3)
    replace HB := Lib.hid (HB.out.trans (hb3.mono HB.out.size))
    clear hb3
    have heq := shaC_eq b
    generalize shaC b = B at *
    go_wp2_with fail
    refine (kept_lent _ _ A c b w3 HV.out (HA.out.below HB.out) (by omega)).mono ?_
    rintro e w4 ⟨rfl, hb4⟩
    replace HB := Lib.hid (HB.out.trans (hb4.mono HB.out.size))
    clear hb4
    go_wp2_with fail
    refine (shaAwake_any w4).mono ?_
    rintro e w5 ⟨rfl, hb5⟩
    replace HB := Lib.hid (HB.out.trans (hb5.mono HB.out.size))
    clear hb5
    go_wp2_with fail
    go_ret
    exact ⟨rfl, HB.out⟩
  · have i1 : (5000 : Int) < b.length := by omega
    clear hA
    go_enter Try.func4, Try.ntmps4
    go_wp2_with fail
    refine (shaAwake_any w).mono ?_
    rintro e w5 ⟨rfl, hb5⟩
    go_wp2_with fail
    go_ret
    exact ⟨rfl, hb5⟩
theorem digestTells_walk (A : Option Addr) (c : Nat) (b : List Nat) (w : World) (hr0 : Rd w A b) (hl0 : b.length ≤ c) (hm0 : c ≤ maxLen) : Calls Try.prog 4 #[.slice A b.length c] w fun e w' => e = .returned (.bool true) ∧ Below w.heap.size w w' := digestTells_any A c b w hr0
end Go.Proofs.Ytbnhjhdbjffnkab
