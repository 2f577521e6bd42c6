/-
  CHAPTER 06, IN PLAIN LEAN; THE WALK OF ctr.Stream's closure (one block of the stream). Conditions: the boxes hold a nonce that reads as a list of 8, and a cipher.
-/
import Derived.Test.YtmldpamkghdohaaAesW7
import Derived.Test.YtmldpamkghdohaaAesA
import Derived.Test.YtmldpamkghdohaaBytes2
import Derived.Test.YtmldpamkghdohaaSlices2
namespace Go.Proofs.Ytmldpamkghdohaa
open Go.RowKit
set_option linter.unusedSimpArgs false
set_option linter.unusedVariables false

/-- The first k bytes of a number of eight bytes, the great end first. -/
def beN (q k : Nat) : List Nat := (List.range k).map fun i => q / 2 ^ (56 - 8 * i) % 256
theorem beN_length (q k : Nat) : (beN q k).length = k := by simp [beN]
theorem beN_snoc (q k : Nat) : beN q (k + 1) = beN q k ++ [q / 2 ^ (56 - 8 * k) % 256] := range_snoc _ k
/-- A block of the stream. -/
def ctrB (kb : Nat → Nat) (nonce : List Nat) (q : Nat) : List Nat := (List.range 16).map (encN kb (nth (nonce ++ beN q 8)) 14)
def strm (kb : Nat → Nat) (nonce : List Nat) (at' n : Nat) : List Nat := (List.range n).map fun i => nth (ctrB kb nonce ((at' + i) / 16)) ((at' + i) % 16)
theorem ctrB_length (kb : Nat → Nat) (nonce : List Nat) (q : Nat) : (ctrB kb nonce q).length = 16 := by simp [ctrB]
theorem strm_length (kb : Nat → Nat) (nonce : List Nat) (a n : Nat) : (strm kb nonce a n).length = n := by simp [strm]
theorem nth_strm {kb : Nat → Nat} {nonce : List Nat} {a n i : Nat} (hi : i < n) : nth (strm kb nonce a n) i = nth (ctrB kb nonce ((a + i) / 16)) ((a + i) % 16) := by simp [nth, strm, hi]

theorem byte_of (q k : Nat) (hk : k < 8) : True := trivial

set_option maxRecDepth 100000 in
set_option maxHeartbeats 2000000 in
theorem ctrblock_any (g pn pc c : Nat) (A : Option Addr) (kb : Nat → Nat) (nonce : List Nat) (q : Nat) (w : World) (hq : q < 72057594037927936) (hc : Cph w g kb) (hkb : ∀ i, i < 240 → kb i < 256)
    (hbn : w.cell? ⟨pn, 0, none⟩ = some (.slice A 8 c)) (hbc : w.cell? ⟨pc, 0, none⟩ = some (.pointer (some ⟨g, 0, none⟩))) (hl : nonce.length = 8) (hr : Rd w A nonce) :
    Calls Try.prog 42 #[.int .i64 q, .pointer (some ⟨pn, 0, none⟩), .pointer (some ⟨pc, 0, none⟩)] w fun e w' => ∃ g', w.heap.size ≤ g' ∧ e = .returned (.slice (some ⟨g', 0, none⟩) 16 16) ∧
      Rd w' (some ⟨g', 0, none⟩) (ctrB kb nonce q) ∧ Below w.heap.size w w' := by
  have HC := Lib.hid hc
  have HBC := Lib.hid hbc
  have hpc := block_lt_of_cell hbc
  have HR := Lib.hid hr
  have h0 := Lib.hid (Ow.nil w w.heap.size)
  clear hr hc
  go_enter Try.func42, Try.ntmps42
  go_wp2_with (at_builtin; refine append_bytes (.const (.slice none 0 0)) (.tmp 9) rfl rfl rfl h0.out A 8 c nonce rfl hl.symm HR.out (by simp [hl]) (Nat.le_refl _) ?_; intro v0 w0 ho0 hg0 ha0)
  rw [List.nil_append] at ho0
  have hb0 : Below w.heap.size w w0 := below_of_append (Below.refl _ _) h0.out hg0 (Nat.le_refl _) (Nat.le_refl _)
  have HO0 := Lib.hid ho0
  have HB0 := Lib.hid hb0
  clear ho0 hg0 ha0 hb0
  go_loopw [5, 11] (fun v i wr => ∃ k : Nat, k ≤ 8 ∧ i = .int .i64 k ∧ Ow wr w.heap.size v (nonce ++ beN q k) ∧ Below w.heap.size w wr) (fun _ i _ => 8 - (intOf i).toNat)
  case atStart => exact ⟨0, by omega, rfl, by simpa [beN] using HO0.out, HB0.out⟩
  case round =>
    clear HO0 HB0 h0
    obtain ⟨k, hk, rfl, ho, hb⟩ := hrel
    have HO := Lib.hid ho
    have HB := Lib.hid hb
    clear ho hb
    by_cases e0 : k < 8
    · have hlen : (nonce ++ beN q k).length + 1 ≤ 140737488355328 := by rw [List.length_append, beN_length, hl]; omega
      obtain ⟨b, hbv⟩ : ∃ b, b = q / 2 ^ (56 - 8 * k) % 256 := ⟨_, rfl⟩
      have hb8 : b < 256 := by rw [hbv]; exact Nat.mod_lt _ (by omega)
      have hsn := beN_snoc q k
      rw [← hbv] at hsn
      obtain ⟨j, hj⟩ : ∃ j, j = k + 1 := ⟨_, rfl⟩
      rw [← hj] at hsn
      have HBV := Lib.hid hbv
      have HJ := Lib.hid hj
      have HSN := Lib.hid hsn
      clear hbv hj hsn
      have hcase : k = 0 ∨ k = 1 ∨ k = 2 ∨ k = 3 ∨ k = 4 ∨ k = 5 ∨ k = 6 ∨ k = 7 := by omega
      rcases hcase with rfl | rfl | rfl | rfl | rfl | rfl | rfl | rfl
      all_goals
        go_wp2_with (at_builtin; refine append_new (.tmp 14) (.tmp 21) rfl rfl _ _ _ b rfl rfl HO.out (by have h := HBV.out; simp only [Nat.reduceSub, Nat.reduceMul, Nat.reducePow] at h; omega) hb8 hlen HB.out.size ?_; intro v1 w1 ho1 hg1 ha1)
        rw [List.append_assoc, ← HSN.out] at ho1
        have hb1 : Below w.heap.size w w1 := below_of_append HB.out HO.out hg1 HB.out.size (Nat.le_refl _)
        have HO1 := Lib.hid ho1
        have HB1 := Lib.hid hb1
        clear ho1 hg1 ha1 hb1 HO HB
        go_wp2
        go_roundw
        case rel => exact ⟨j, by rw [HJ.out]; omega, by rw [HJ.out]; rfl, HO1.out, HB1.out⟩
        case measure => simp [intOf]
    · obtain rfl : k = 8 := by omega
      have hln : (nonce ++ beN q 8).length = 16 := by rw [List.length_append, beN_length, hl]
      obtain ⟨gi, ci, rfl, hci, hgi, hgi2, hcell, -⟩ := HO.out.form0 (by intro e; rw [e] at hln; simp at hln)
      rw [hln] at hcell hci ⊢
      have hcc := (HB.out.cell (p := ⟨pc, 0, none⟩) hpc).trans HBC.out
      have hbl := HO.out.1
      have HCELL := Lib.hid hcell
      have HBL := Lib.hid hbl
      have HC2 := Lib.hid (HC.out.below HB.out HC.out.lt)
      clear hcell hbl HO
      go_wp2_with fail
      refine (encrypt_any g gi 0 ci kb (nth (nonce ++ beN q 8)) wr HC2.out hkb (fun i _ => nth_lt HBL.out i) (fun i hi => by rw [Nat.zero_add]; exact HCELL.out i hi)).mono ?_
      rintro e w2 ⟨rfl, hr2, hb2⟩
      have HR2 := Lib.hid (row_rd hr2 (fun i hi => encN_lt hkb (fun i _ => nth_lt HBL.out i) 14 (by omega) i hi))
      have HB2 := Lib.hid (HB.out.trans (hb2.mono HB.out.size))
      have hs2 : w.heap.size ≤ wr.heap.size := HB.out.size
      clear hr2 hb2 HB HC2 HCELL hcc
      go_wp2_with fail
      go_ret
      exact ⟨_, hs2, rfl, HR2.out, HB2.out⟩
end Go.Proofs.Ytmldpamkghdohaa
