/-
  THE WALKS OF slices.EqualFunc upon lists of bytes and of SameLists. Conditions: both lists lie in memory.
-/
import Derived.Test.YtlhbijpmhokmnaaGreatQ11
import Derived.Test.YtlhbijpmhokmnaaGreatQ26
namespace Go.Proofs.YtlhbijpmhokmnaaGreat
open Go.RowKit
set_option linter.unusedSimpArgs false
set_option linter.unusedVariables false

def sameLL (a b : List (List Nat)) : Bool := decide (a = b)
theorem sameLL_iff (a b : List (List Nat)) : sameLL a b = true ↔ a = b := by simp [sameLL]
theorem eq_of_getD {a b : List (List Nat)} (hl : a.length = b.length) (h : ∀ i, i < a.length → a.getD i [] = b.getD i []) : a = b := by
  apply List.ext_getElem hl
  intro i h1 h2
  have := h i h1
  rw [List.getD_eq_getElem?_getD, List.getD_eq_getElem?_getD, List.getElem?_eq_getElem h1, List.getElem?_eq_getElem h2] at this
  exact this
set_option maxRecDepth 100000 in
set_option maxHeartbeats 2000000 in
theorem eqf_any (A1 A2 : Option Addr) (c1 c2 : Nat) (a b : List (List Nat)) (w : World) (ha : Rds w A1 a) (hb : Rds w A2 b) (hla : a.length ≤ maxLen) (hlb : b.length ≤ maxLen) :
    Calls Tryz.prog 52 #[.slice A1 a.length c1, .slice A2 b.length c2, .func (.func 9) #[] #[]] w (Quiet (.bool (sameLL a b)) w) := by
  unfold maxLen at hla hlb
  by_cases hl : a.length = b.length
  · have hne : (((a.length : Nat) : Int) != ((b.length : Nat) : Int)) = false := by rw [hl]; simp
    have HL := Lib.hid hl
    have HA := Lib.hid ha
    have HB := Lib.hid hb
    clear ha hb hl
    go_enter Tryz.func52, Tryz.ntmps52
    go_wp2
    go_loopw [17] (fun i wr => ∃ k n : Nat, k ≤ a.length ∧ i = .int .i64 k ∧ wr = w.drewN n ∧ ∀ j, j < k → a.getD j [] = b.getD j []) (fun i _ => a.length - (intOf i).toNat)
    case atStart => exact ⟨0, 0, by omega, rfl, rfl, fun j hj => by omega⟩
    case round =>
      obtain ⟨k, n, hk, rfl, rfl, hs⟩ := hrel
      have HS := Lib.hid hs
      clear hs
      by_cases e0 : k < a.length
      · obtain ⟨g1, o1, rfl, hg1, hc1⟩ := HA.out (by rintro rfl; simp at e0)
        obtain ⟨g2, o2, rfl, hg2, hc2⟩ := HB.out (by rintro rfl; have := HL.out; simp at this; subst this; simp at e0)
        obtain ⟨B1, d1, x1, l1, m1, r1⟩ := hc1 k e0
        obtain ⟨B2, d2, x2, l2, m2, r2⟩ := hc2 k (by have := HL.out; omega)
        obtain ⟨p, hp⟩ : ∃ p, p = a.getD k [] := ⟨_, rfl⟩
        obtain ⟨q, hq⟩ : ∃ q, q = b.getD k [] := ⟨_, rfl⟩
        rw [← hp] at x1 l1 r1
        rw [← hq] at x2 l2 r2
        have HP := Lib.hid hp
        have HQ := Lib.hid hq
        clear hp hq
        have b2 : (k : Int) < (b.length : Int) := by have := HL.out; omega
        have b1 : (k : Int) < (a.length : Int) := by omega
        have HX1 := Lib.hid hc1
        have HX2 := Lib.hid hc2
        clear hc1 hc2
        unfold maxLen at m1 m2
        have hbw : Below w.heap.size w (w.drewN n) := below_drewN' (Below.refl _ _) n
        have hs1 : p.length ≤ 9223372036854775807 := by omega
        have hs2 : q.length ≤ 9223372036854775807 := by omega
        have hcall := same_any B1 B2 d1 d2 p q (w.drewN n) (r1.below hbw) (r2.below hbw) hs1 hs2
        have HC := Lib.hid hcall
        clear hcall r1 r2 hbw l1 l2 m1 m2 hs1 hs2
        by_cases e1 : p = q
        · have E1 := Lib.hid e1
          have E2 := Lib.hid ((sameB_iff _ _).2 e1)
          clear e1
          go_wp2_with fail
          refine HC.out.mono ?_
          rw [E2.out]
          rintro e w' ⟨rfl, n', rfl⟩
          go_wp2_with fail
          go_roundw
          case rel =>
            refine ⟨k + 1, n + n', by omega, by go_num, by simp [World.drewN_drewN], fun j hj => ?_⟩
            rcases Nat.lt_or_ge j k with h | h
            · exact HS.out j h
            · have : j = k := by omega
              subst this
              rw [← HP.out, ← HQ.out]
              exact E1.out
          case measure => simp [intOf]; omega
        · have E2 : Hid (sameB p q = false) := by
            unfold Hid sameB
            exact decide_eq_false e1
          have E3 : Hid (sameLL a b = false) := by
            unfold Hid sameLL
            refine decide_eq_false ?_
            rintro rfl
            exact e1 (HP.out.trans HQ.out.symm)
          clear e1
          go_wp2_with fail
          refine HC.out.mono ?_
          rw [E2.out]
          rintro e w' ⟨rfl, n', rfl⟩
          go_wp2_with fail
          go_ret
          exact ⟨by rw [E3.out]; rfl, n + n', by simp [World.drewN_drewN]⟩
      · obtain rfl : k = a.length := by omega
        have E3 : Hid (sameLL a b = true) := (sameLL_iff a b).2 (eq_of_getD HL.out HS.out)
        go_wp2
        go_ret
        exact ⟨by rw [E3.out]; rfl, n, rfl⟩
  · have hne : (((a.length : Nat) : Int) != ((b.length : Nat) : Int)) = true := by rw [bne_iff_ne]; omega
    have E3 : Hid (sameLL a b = false) := by
      unfold Hid sameLL
      refine decide_eq_false ?_
      rintro rfl
      exact hl rfl
    clear hl
    go_enter Tryz.func52, Tryz.ntmps52
    go_wp2
    go_ret
    exact ⟨by rw [E3.out]; rfl, 0, rfl⟩
set_option maxHeartbeats 400000 in
theorem samel_any (A1 A2 : Option Addr) (n1 n2 c1 c2 : Nat) (a b : List (List Nat)) (w : World) (h1 : n1 = a.length) (h2 : n2 = b.length) (ha : Rds w A1 a) (hb : Rds w A2 b) (hla : a.length ≤ maxLen) (hlb : b.length ≤ maxLen) :
    Calls Tryz.prog 16 #[.slice A1 n1 c1, .slice A2 n2 c2] w (Quiet (.bool (sameLL a b)) w) := by
  subst h1; subst h2
  go_enter Tryz.func16, Tryz.ntmps16
  go_wp2_with fail
  refine (eqf_any A1 A2 c1 c2 a b w ha hb hla hlb).mono ?_
  rintro e w' ⟨rfl, n, rfl⟩
  go_wp2_with fail
  go_ret
  exact ⟨rfl, n, rfl⟩
end Go.Proofs.YtlhbijpmhokmnaaGreat
