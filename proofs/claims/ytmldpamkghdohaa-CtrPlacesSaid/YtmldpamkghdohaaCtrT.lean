/-
  CHAPTER 06: WHAT THE CALLS ANSWER, IN ONE FORM FOR ALL ARGUMENTS. Conditions: the cipher is made, the slices read as lists.
-/
import Derived.Test.YtmldpamkghdohaaCtrA
import Derived.Test.YtmldpamkghdohaaCtrR1
import Derived.Test.YtmldpamkghdohaaLent
namespace Go.Proofs.Ytmldpamkghdohaa
open Go.RowKit
set_option linter.unusedSimpArgs false
set_option linter.unusedVariables false

instance (nl : Nat) (a n : Int) : Decidable (CtrOk nl a n) := by unfold CtrOk; infer_instance
def ctrE (nl : Nat) (a n : Int) : Nat := if CtrOk nl a n then 0 else 2
def ctrL (kb : Nat → Nat) (nonce : List Nat) (a n : Int) : List Nat := if CtrOk nonce.length a n then strm kb nonce a.toNat n.toNat else []
def ctrT (kb : Nat → Nat) (nonce : List Nat) (a : Int) (b : List Nat) : List Nat := if CtrOk nonce.length a b.length then turned kb nonce a.toNat b else []
theorem ctrL_le {kb : Nat → Nat} {nonce : List Nat} {a n : Int} : (ctrL kb nonce a n).length ≤ 4194304 := by
  unfold ctrL
  split
  · rename_i h; rw [strm_length]; obtain ⟨_, _, _, _, h5⟩ := h; omega
  · simp
theorem ctrT_length (kb : Nat → Nat) (nonce : List Nat) (a : Int) (b : List Nat) : (ctrT kb nonce a b).length = (ctrL kb nonce a b.length).length := by
  unfold ctrT ctrL
  split
  · rw [turned_length, strm_length]; omega
  · rfl
theorem ctrT_nth {kb : Nat → Nat} {nonce : List Nat} {a : Int} {b : List Nat} {j : Nat} (hj : j < (ctrT kb nonce a b).length) : nth (ctrT kb nonce a b) j = nth (ctrL kb nonce a b.length) j ^^^ nth b j ∧ j < b.length := by
  unfold ctrT ctrL at *
  split at hj
  · rename_i h
    rw [turned_length] at hj
    rw [if_pos h, if_pos h, nth_turned hj, show ((b.length : Int)).toNat = b.length by omega]
    exact ⟨rfl, hj⟩
  · simp at hj

theorem stream_all (g : Nat) (A : Option Addr) (nl c : Nat) (kb : Nat → Nat) (nonce : List Nat) (a n : Int) (w : World) (hnl : nl = nonce.length) (hc : Cph w g kb) (hkb : ∀ i, i < 240 → kb i < 256) (hr : Rd w A nonce) :
    Calls Try.prog 11 #[.pointer (some ⟨g, 0, none⟩), .slice A nl c, .int .i64 a, .int .i64 n] w fun e w' => ∃ A' c', e = .returned (.tuple #[.slice A' (ctrL kb nonce a n).length c', .int .i64 (ctrE nonce.length a n : Nat)]) ∧
      Ow w' w.heap.size (.slice A' (ctrL kb nonce a n).length c') (ctrL kb nonce a n) ∧ Below w.heap.size w w' := by
  subst hnl
  by_cases h : CtrOk nonce.length a n
  · have e1 : ctrL kb nonce a n = strm kb nonce a.toNat n.toNat := if_pos h
    have e2 : ctrE nonce.length a n = 0 := if_pos h
    obtain ⟨h1, h2, h3, h4, h5⟩ := h
    obtain ⟨a', rfl⟩ : ∃ k : Nat, a = k := ⟨a.toNat, by omega⟩
    obtain ⟨n', rfl⟩ : ∃ k : Nat, n = k := ⟨n.toNat, by omega⟩
    rw [e1, e2, h1]
    simp only [Int.toNat_natCast]
    refine (stream_any g A c kb nonce a' n' w (by omega) (by omega) hc hkb h1 hr).mono ?_
    rintro e w' ⟨v, rfl, ho, hb⟩
    obtain ⟨A', c', rfl, -, -, -⟩ := ho.form
    exact ⟨A', c', rfl, ho, hb⟩
  · have e1 : ctrL kb nonce a n = [] := if_neg h
    have e2 : ctrE nonce.length a n = 2 := if_neg h
    rw [e1, e2]
    refine (stream_no g A nonce.length c a n w hc.mark h).mono ?_
    rintro e w' ⟨rfl, hb⟩
    exact ⟨none, 0, rfl, Ow.nil _ _, hb⟩
theorem rstream_all (K : Option Addr) (kc : Nat) (A : Option Addr) (nl c : Nat) (key nonce : List Nat) (a n : Int) (w : World) (hnl : nl = nonce.length) (hkl : key.length = 32) (hkc : 32 ≤ kc) (hK : Rd w K key) (hr : Rd w A nonce) :
    Calls Try.prog 14 #[.slice K 32 kc, .slice A nl c, .int .i64 a, .int .i64 n] w fun e w' => ∃ A' c', e = .returned (.tuple #[.slice A' (ctrL (nth (ks key)) nonce a n).length c', .int .i64 (ctrE nonce.length a n : Nat)]) ∧
      Ow w' w.heap.size (.slice A' (ctrL (nth (ks key)) nonce a n).length c') (ctrL (nth (ks key)) nonce a n) ∧ Below w.heap.size w w' := by
  subst hnl
  by_cases h : CtrOk nonce.length a n
  · have e1 : ctrL (nth (ks key)) nonce a n = strm (nth (ks key)) nonce a.toNat n.toNat := if_pos h
    have e2 : ctrE nonce.length a n = 0 := if_pos h
    obtain ⟨h1, h2, h3, h4, h5⟩ := h
    obtain ⟨a', rfl⟩ : ∃ k : Nat, a = k := ⟨a.toNat, by omega⟩
    obtain ⟨n', rfl⟩ : ∃ k : Nat, n = k := ⟨n.toNat, by omega⟩
    rw [e1, e2, h1]
    simp only [Int.toNat_natCast]
    refine (rstream_any K kc A c key nonce a' n' w (by omega) (by omega) hkl hkc hK h1 hr).mono ?_
    rintro e w' ⟨v, rfl, ho, hb⟩
    obtain ⟨A', c', rfl, -, -, -⟩ := ho.form
    exact ⟨A', c', rfl, ho, hb⟩
  · have e1 : ctrL (nth (ks key)) nonce a n = [] := if_neg h
    have e2 : ctrE nonce.length a n = 2 := if_neg h
    rw [e1, e2]
    refine (rstream_no K kc A nonce.length c a n w h).mono ?_
    rintro e w' ⟨rfl, rfl⟩
    exact ⟨none, 0, rfl, Ow.nil _ _, Below.refl _ _⟩
theorem turn_all (g : Nat) (A : Option Addr) (nl c : Nat) (kb : Nat → Nat) (nonce : List Nat) (a : Int) (B : Option Addr) (m d : Nat) (b : List Nat) (w : World) (hnl : nl = nonce.length) (hm : m = b.length) (hc : Cph w g kb) (hkb : ∀ i, i < 240 → kb i < 256) (hr : Rd w A nonce) (hb : Rd w B b) :
    Calls Try.prog 13 #[.pointer (some ⟨g, 0, none⟩), .slice A nl c, .int .i64 a, .slice B m d] w fun e w' => ∃ A' c', e = .returned (.tuple #[.slice A' (ctrT kb nonce a b).length c', .int .i64 (ctrE nonce.length a b.length : Nat)]) ∧
      Ow w' w.heap.size (.slice A' (ctrT kb nonce a b).length c') (ctrT kb nonce a b) ∧ Below w.heap.size w w' := by
  subst hnl; subst hm
  by_cases h : CtrOk nonce.length a b.length
  · have e1 : ctrT kb nonce a b = turned kb nonce a.toNat b := if_pos h
    have e2 : ctrE nonce.length a b.length = 0 := if_pos h
    obtain ⟨h1, h2, h3, h4, h5⟩ := h
    obtain ⟨a', rfl⟩ : ∃ k : Nat, a = k := ⟨a.toNat, by omega⟩
    rw [e1, e2, h1]
    simp only [Int.toNat_natCast]
    refine (turn_any g A c kb nonce a' B b.length d b w (by omega) (by omega) hc hkb h1 hr rfl hb).mono ?_
    rintro e w' ⟨v, rfl, ho, hb⟩
    obtain ⟨A', c', rfl, -, -, -⟩ := ho.form
    exact ⟨A', c', rfl, ho, hb⟩
  · have e1 : ctrT kb nonce a b = [] := if_neg h
    have e2 : ctrE nonce.length a b.length = 2 := if_neg h
    rw [e1, e2]
    refine (turn_no g A nonce.length c a B b.length d w hc.mark h).mono ?_
    rintro e w' ⟨rfl, hb⟩
    exact ⟨none, 0, rfl, Ow.nil _ _, hb⟩
end Go.Proofs.Ytmldpamkghdohaa
