/-
  THE WALKS OF quillpressref05.Encrypt AND OF quillpresslaw05.AesTells. Conditions: the slices read as lists of bytes.
-/
import Derived.Test.YtbnhjhdbjffnkaaRefB
import Derived.Test.YtbnhjhdbjffnkaaRefD
import Derived.Test.YtbnhjhdbjffnkaaSlices2
namespace Go.Proofs.Ytbnhjhdbjffnkaa
open Go.RowKit
set_option linter.unusedSimpArgs false
set_option linter.unusedVariables false

theorem Wo.wd {w : World} {base : Nat} {v : Value} {l : List Nat} (h : Wo w base v l 60) : Wd w v (nth l) 60 := by
  obtain ⟨g, c, rfl, hc, h1, h2, h3⟩ := h.form (by omega)
  exact ⟨g, c, rfl, h2, fun i hi => by obtain ⟨gi, oi, ci, k1, k2, k3⟩ := h3 i hi; exact ⟨gi, oi, ci, k1, k2, k3⟩⟩
theorem rencrypt_no (A B : Option Addr) (n m c d : Nat) (w : World) (h : n ≠ 32 ∨ m ≠ 16) : Calls Try.prog 17 #[.slice A n c, .slice B m d] w fun e w' => e = .returned (.tuple #[.slice none 0 0, .int .i64 2]) ∧ w = w' := by
  by_cases h1 : n = 32
  · have hm : ((m : Int) != 16) = true := by rw [bne_iff_ne]; omega
    have hn : ((n : Int) != 32) = false := by rw [h1]; rfl
    clear h h1
    go_enter Try.func17, Try.ntmps17
    go_wp2
    go_ret2
    exact ⟨rfl, rfl⟩
  · have hn : ((n : Int) != 32) = true := by rw [bne_iff_ne]; omega
    go_enter Try.func17, Try.ntmps17
    go_wp2
    go_ret2
    exact ⟨rfl, rfl⟩
set_option maxRecDepth 100000 in
set_option maxHeartbeats 1000000 in
theorem rencrypt_any (A B : Option Addr) (c d : Nat) (key b : List Nat) (w : World) (hk : key.length = 32) (hb : b.length = 16) (hc : 32 ≤ c) (hA : Rd w A key) (hB : Rd w B b) :
    Calls Try.prog 17 #[.slice A 32 c, .slice B 16 d] w fun e w' => ∃ v, e = .returned (.tuple #[v, .int .i64 0]) ∧ Ow w' w.heap.size v ((List.range 16).map (encN (nth (ks key)) (nth b) 14)) ∧ Below w.heap.size w w' := by
  obtain ⟨gk, ok, rfl, hgk, hck⟩ := hA.2 (by rintro rfl; simp at hk)
  obtain ⟨gb, ob, rfl, hgb, hcb⟩ := hB.2 (by rintro rfl; simp at hb)
  rw [hk] at hck
  rw [hb] at hcb
  have hkl := hA.1
  have hbl : ∀ i, i < 16 → nth b i < 256 := fun i _ => nth_lt hB.1 i
  have hkb : ∀ i, i < 240 → nth (ks key) i < 256 := fun i _ => nth_lt (ks_lt hkl) i
  have HK := Lib.hid hk
  have HCK := Lib.hid hck
  have HCB := Lib.hid hcb
  have HKL := Lib.hid hkl
  have HBL := Lib.hid hbl
  have HKB := Lib.hid hkb
  clear hk hb hck hcb hA hB hkl hbl hkb
  go_enter Try.func17, Try.ntmps17
  go_wp2_with fail
  refine (table_any _).mono ?_
  rintro e w1 ⟨v1, rfl, ho1, hb1⟩
  obtain ⟨gt, ct, rfl, -, -, hgt, hcell, -⟩ := ho1.form0 (by intro e; have := congrArg List.length e; simp [subL] at this)
  rw [show subL.length = 256 by simp [subL]] at *
  have hcell1 : ∀ i, i < 256 → w1.cell? ⟨gt, i, none⟩ = some (.int .u8 (sb i : Nat)) := by
    intro i hi
    rw [hcell i hi]
    simp [nth, subL, hi]
  have HT := Lib.hid hcell1
  have HB1 := Lib.hid hb1
  clear ho1 hb1 hcell hcell1
  go_wp2_with fail
  refine (words_any gk ok c gt ct key w1 HK.out HKL.out hc (fun i hi => (HB1.out.cell hgk).trans (HCK.out i hi)) (Nat.lt_of_lt_of_le hgk HB1.out.size) HT.out hgt).mono ?_
  rintro e w2 ⟨v2, rfl, ho2, hb2⟩
  have HW := Lib.hid ho2.wd
  have HB2 := Lib.hid hb2
  clear ho2 hb2
  go_wp2_with fail
  refine (with_any gt ct gb ob d v2 (nth (ks key)) (nth b) w2 (fun i hi => (HB2.out.cell hgt).trans (HT.out i hi)) (Nat.lt_of_lt_of_le hgt HB2.out.size) (fun i hi => (HB2.out.cell (Nat.lt_of_lt_of_le hgb HB1.out.size)).trans ((HB1.out.cell hgb).trans (HCB.out i hi))) (Nat.lt_of_lt_of_le hgb (Nat.le_trans HB1.out.size HB2.out.size)) HBL.out HKB.out HW.out).mono ?_
  rintro e w3 ⟨v3, rfl, ho3, hb3⟩
  have h12 : Below w.heap.size w w2 := HB1.out.trans (HB2.out.mono HB1.out.size)
  have HO3 := Lib.hid (ho3.mono h12.size)
  have HB3 := Lib.hid (h12.trans (hb3.mono h12.size))
  clear ho3 hb3 h12
  go_wp2_with fail
  go_ret2
  exact ⟨v3, rfl, HO3.out, HB3.out⟩
end Go.Proofs.Ytbnhjhdbjffnkaa
