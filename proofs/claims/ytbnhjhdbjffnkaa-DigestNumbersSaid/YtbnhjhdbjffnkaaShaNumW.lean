/-
  THE WALKS OF quillpresslow.Made AND OF quillpresslaw03.DigestNumbers: it returns true. Conditions: none.
-/
import Derived.Test.YtbnhjhdbjffnkaaShaR2
import Derived.Test.YtbnhjhdbjffnkaaShaA
namespace Go.Proofs.Ytbnhjhdbjffnkaa
open Go.RowKit
set_option linter.unusedSimpArgs false
set_option linter.unusedVariables false

def shaC (l : List Nat) : Array Value := ((sha l).map fun x => Value.int .u8 (x : Nat)).toArray
theorem shaC_eq (l : List Nat) (V : World) : (Op.equalIn 10000 44 (.agg (shaC l)) (.agg (shaC l))).run Try.prog V = .ok true V := by
  have hz : ∀ i, i < 32 → (shaC l)[i]? = some (.int .u8 (nth (sha l) i : Nat)) := by
    intro i hi
    have : i < (sha l).length := by rw [sha_length]; exact hi
    rw [nth_get this]
    simp [shaC, this]
  have := run_equalIn_bytes V 9998 44 32 (shaC l) (shaC l) (nth (sha l)) (nth (sha l)) Try.underlying44 hz hz
  rw [show sameN (nth (sha l)) (nth (sha l)) 32 = true by rw [sameN_iff]; intros; rfl] at this
  exact this
theorem of_c (A : Option Addr) (n c : Nat) (m : List Nat) (w : World) (hn : n = m.length) (hm : m.length ≤ 35184372088832) (hr : Rd w A m) : Calls Try.prog 26 #[.slice A n c] w fun e w' => e = .returned (.agg (shaC m)) ∧ Below w.heap.size w w' := by
  subst hn
  exact (of_any A c m w hm hr).mono fun e w' ⟨he, hb⟩ => ⟨he, hb⟩
theorem ref_c (A : Option Addr) (n c : Nat) (m : List Nat) (w : World) (hn : n = m.length) (hm : m.length ≤ 17592186044416) (hr : Rd w A m) : Calls Try.prog 28 #[.slice A n c] w fun e w' => e = .returned (.agg (shaC m)) ∧ Below w.heap.size w w' := by
  subst hn
  exact (refOf_any A c m w hm hr).mono fun e w' ⟨he, hb⟩ => ⟨he, hb⟩
theorem mkx_any (z : Int) (w : World) : Calls Try.prog 47 #[.int .u64 z] w fun e w' => ∃ y : Int, e = .returned (.int .u64 y) ∧ 0 ≤ y ∧ y < 18446744073709551616 ∧ w = w' := by
  go_enter Try.func47, Try.ntmps47
  go_wp2
  go_ret
  refine ⟨_, rfl, ?_, ?_, rfl⟩ <;> (rw [IntKind.wrap_u64]; omega)
theorem firstx_any (z : Int) (w : World) : Calls Try.prog 46 #[.int .i64 z] w fun e w' => ∃ y : Int, e = .returned (.int .u64 y) ∧ 0 ≤ y ∧ y < 18446744073709551616 ∧ w = w' := by
  go_enter Try.func46, Try.ntmps46
  go_wp2_with fail
  refine (mkx_any _ w).mono ?_
  rintro e w' ⟨y, rfl, h1, h2, rfl⟩
  go_wp2_with fail
  go_ret
  exact ⟨y, rfl, h1, h2, rfl⟩
theorem takenx_any (z : Int) (h1 : 0 ≤ z) (h2 : z < 18446744073709551616) (w : World) : Calls Try.prog 48 #[.int .u64 z] w fun e w' => ∃ b : Nat, e = .returned (.int .u8 b) ∧ b < 256 ∧ w = w' := by
  go_enter Try.func48, Try.ntmps48
  go_wp2
  go_ret
  have hk : ∀ x : Int, ∃ b : Nat, IntKind.u8.wrap x = b ∧ b < 256 := fun x => ⟨(x % 256).toNat, by rw [IntKind.wrap_u8]; omega, by omega⟩
  refine Exists.imp (fun b hb => ⟨congrArg (fun y => Ending.returned (Value.int .u8 y)) hb.1, hb.2, rfl⟩) (hk _)
set_option maxRecDepth 100000 in
set_option maxHeartbeats 2000000 in
theorem madeL_any (n : Nat) (hn : n ≤ 5000) (w : World) : Calls Try.prog 27 #[.int .i64 n, .int .i64 n] w fun e w' => ∃ v l, e = .returned v ∧ l.length = n ∧ Ow w' w.heap.size v l ∧ Below w.heap.size w w' := by
  go_enter Try.func27, Try.ntmps27
  go_wp2_with fail
  refine (firstx_any n w).mono ?_
  rintro e w' ⟨y, rfl, hy1, hy2, rfl⟩
  go_wp2_with fail
  go_loopw [5, 6, 11] (fun v5 v6 v11 wr => ∃ (k : Nat) (z : Int) (l : List Nat), k ≤ n ∧ 0 ≤ z ∧ z < 18446744073709551616 ∧ v5 = .int .u64 z ∧ v11 = .int .i64 k ∧ l.length = k ∧ Ow wr w.heap.size v6 l ∧ Below w.heap.size w wr) (fun _ _ v _ => n - (intOf v).toNat)
  case atStart => exact ⟨0, y, [], by omega, hy1, hy2, rfl, rfl, rfl, Ow.nil _ _, Below.refl _ _⟩
  case round =>
    obtain ⟨k, z, l, hk, hz1, hz2, rfl, rfl, hl, ho, hb⟩ := hrel
    have HO := Lib.hid ho
    have HB := Lib.hid hb
    have HL := Lib.hid hl
    clear ho hb hl hy1 hy2
    by_cases kn : k < n
    · have kn' : (k : Int) < n := by omega
      obtain ⟨q, hq⟩ : ∃ q, bits .and .i64 (k : Int) 7 = q := ⟨_, rfl⟩
      by_cases q0 : q = 0
      · have q1 : (q == 0) = true := by rw [beq_iff_eq]; exact q0
        clear q0
        go_wp2_with fail
        refine (mkx_any z wr).mono ?_
        rintro e w' ⟨y, rfl, hy1, hy2, rfl⟩
        go_wp2_with fail
        refine (takenx_any y hy1 hy2 wr).mono ?_
        rintro e w' ⟨b, rfl, hb256, rfl⟩
        go_wp2_with (at_builtin; refine append_new (.tmp 19) (.tmp 22) rfl rfl _ _ _ b rfl rfl HO.out rfl hb256 (by rw [HL.out]; omega) HB.out.size ?_; intro v1 w1 ho1 hg1 ha1; have HO1 := Lib.hid ho1; have HG1 := Lib.hid hg1; clear ho1 hg1 ha1)
        go_roundw
        case rel =>
          have hb1 : Below w.heap.size w w1 := HB.out.grown HG1.out HB.out.size (fun x e => (HO.out.lt x e).1)
          have hl1 : (l ++ [b]).length = k + 1 := by rw [List.length_append, HL.out]; rfl
          first
          | exact ⟨k + 1, y, l ++ [b], by omega, hy1, hy2, rfl, by go_num, hl1, HO1.out, hb1⟩
          | (repeat apply Exists.intro); refine ⟨⟨k + 1, y, l ++ [b], by omega, hy1, hy2, rfl, by go_num, hl1, HO1.out, hb1⟩, rfl⟩
        case measure => simp [intOf]; omega
      · have q1 : (q == 0) = false := by rw [beq_eq_false_iff_ne]; exact q0
        clear q0
        go_wp2_with fail
        refine (takenx_any z hz1 hz2 wr).mono ?_
        rintro e w' ⟨b, rfl, hb256, rfl⟩
        go_wp2_with (at_builtin; refine append_new (.tmp 19) (.tmp 22) rfl rfl _ _ _ b rfl rfl HO.out rfl hb256 (by rw [HL.out]; omega) HB.out.size ?_; intro v1 w1 ho1 hg1 ha1; have HO1 := Lib.hid ho1; have HG1 := Lib.hid hg1; clear ho1 hg1 ha1)
        go_roundw
        case rel =>
          have hb1 : Below w.heap.size w w1 := HB.out.grown HG1.out HB.out.size (fun x e => (HO.out.lt x e).1)
          have hl1 : (l ++ [b]).length = k + 1 := by rw [List.length_append, HL.out]; rfl
          first
          | exact ⟨k + 1, z, l ++ [b], by omega, hz1, hz2, rfl, by go_num, hl1, HO1.out, hb1⟩
          | (repeat apply Exists.intro); refine ⟨⟨k + 1, z, l ++ [b], by omega, hz1, hz2, rfl, by go_num, hl1, HO1.out, hb1⟩, rfl⟩
        case measure => simp [intOf]; omega
    · obtain rfl : k = n := by omega
      have kn' : ¬ (k : Int) < k := by omega
      go_wp2_with fail
      go_ret
      first | exact ⟨_, rfl, l, HL.out, HO.out, HB.out⟩ | exact ⟨_, l, rfl, HL.out, HO.out, HB.out⟩
def numL : List Nat := [1, 54, 55, 56, 57, 63, 64, 65, 119, 120, 127, 128, 129, 1000]
theorem numL_le (i : Nat) : nth numL i ≤ 1000 := by
  unfold nth
  by_cases h : i < numL.length
  · have : ∀ x ∈ numL, x ≤ 1000 := by decide
    rw [List.getD_eq_getElem?_getD, List.getElem?_eq_getElem h]
    exact this _ (List.getElem_mem h)
  · rw [List.getD_eq_getElem?_getD, List.getElem?_eq_none (by omega)]
    exact Nat.zero_le _
theorem numL_cells (w : World) (t : TypeId) (fr : Nat × Nat) : ∀ i, i < 14 → (w.alloc (.cells #[.int .i64 1, .int .i64 54, .int .i64 55, .int .i64 56, .int .i64 57, .int .i64 63, .int .i64 64, .int .i64 65, .int .i64 119, .int .i64 120, .int .i64 127, .int .i64 128, .int .i64 129, .int .i64 1000] t fr)).cell? ⟨w.heap.size, i, none⟩ = some (.int .i64 (nth numL i : Nat)) := by
  intro i hi
  rw [cell_of_row _ _ _ _ _ _ (heap_alloc_new w _)]
  match i, hi with
  | 0, _ => rfl
  | 1, _ => rfl
  | 2, _ => rfl
  | 3, _ => rfl
  | 4, _ => rfl
  | 5, _ => rfl
  | 6, _ => rfl
  | 7, _ => rfl
  | 8, _ => rfl
  | 9, _ => rfl
  | 10, _ => rfl
  | 11, _ => rfl
  | 12, _ => rfl
  | 13, _ => rfl
theorem hex_long : mkS (hexL (sha [97, 98, 99, 100, 98, 99, 100, 101, 99, 100, 101, 102, 100, 101, 102, 103, 101, 102, 103, 104, 102, 103, 104, 105, 103, 104, 105, 106, 104, 105, 106, 107, 105, 106, 107, 108, 106, 107, 108, 109, 107, 108, 109, 110, 108, 109, 110, 111, 109, 110, 111, 112, 110, 111, 112, 113])) = ⟨#[50, 52, 56, 100, 54, 97, 54, 49, 100, 50, 48, 54, 51, 56, 98, 56, 101, 53, 99, 48, 50, 54, 57, 51, 48, 99, 51, 101, 54, 48, 51, 57, 97, 51, 51, 99, 101, 52, 53, 57, 54, 52, 102, 102, 50, 49, 54, 55, 102, 54, 101, 99, 101, 100, 100, 52, 49, 57, 100, 98, 48, 54, 99, 49]⟩ := by rw [sha_long]; kernel_rfl
set_option maxRecDepth 100000 in
set_option maxHeartbeats 2000000 in
theorem digestNumbers_walk (w : World) : Calls Try.prog 7 #[] w fun e w' => e = .returned (.bool true) ∧ Below w.heap.size w w' := by
  have kc := fun (w : World) (C : Array Value) (n c : Nat) => Lib.run_convert_bytes_const (P := Try.prog) w 22 5 C n c Try.underlying22 Try.underlying5
  go_enter Try.func7, Try.ntmps7
  go_wp2_with fail
  have hba : Below w.heap.size w (w.alloc (.cells #[.int .u8 97, .int .u8 98, .int .u8 99, .int .u8 100, .int .u8 98, .int .u8 99, .int .u8 100, .int .u8 101, .int .u8 99, .int .u8 100, .int .u8 101, .int .u8 102, .int .u8 100, .int .u8 101, .int .u8 102, .int .u8 103, .int .u8 101, .int .u8 102, .int .u8 103, .int .u8 104, .int .u8 102, .int .u8 103, .int .u8 104, .int .u8 105, .int .u8 103, .int .u8 104, .int .u8 105, .int .u8 106, .int .u8 104, .int .u8 105, .int .u8 106, .int .u8 107, .int .u8 105, .int .u8 106, .int .u8 107, .int .u8 108, .int .u8 106, .int .u8 107, .int .u8 108, .int .u8 109, .int .u8 107, .int .u8 108, .int .u8 109, .int .u8 110, .int .u8 108, .int .u8 109, .int .u8 110, .int .u8 111, .int .u8 109, .int .u8 110, .int .u8 111, .int .u8 112, .int .u8 110, .int .u8 111, .int .u8 112, .int .u8 113] 5 (56, 57))) := (Below.refl _ _).alloc (Nat.le_refl _) _
  have hra : Rd (w.alloc (.cells #[.int .u8 97, .int .u8 98, .int .u8 99, .int .u8 100, .int .u8 98, .int .u8 99, .int .u8 100, .int .u8 101, .int .u8 99, .int .u8 100, .int .u8 101, .int .u8 102, .int .u8 100, .int .u8 101, .int .u8 102, .int .u8 103, .int .u8 101, .int .u8 102, .int .u8 103, .int .u8 104, .int .u8 102, .int .u8 103, .int .u8 104, .int .u8 105, .int .u8 103, .int .u8 104, .int .u8 105, .int .u8 106, .int .u8 104, .int .u8 105, .int .u8 106, .int .u8 107, .int .u8 105, .int .u8 106, .int .u8 107, .int .u8 108, .int .u8 106, .int .u8 107, .int .u8 108, .int .u8 109, .int .u8 107, .int .u8 108, .int .u8 109, .int .u8 110, .int .u8 108, .int .u8 109, .int .u8 110, .int .u8 111, .int .u8 109, .int .u8 110, .int .u8 111, .int .u8 112, .int .u8 110, .int .u8 111, .int .u8 112, .int .u8 113] 5 (56, 57))) (some ⟨w.heap.size, 0, none⟩) [97, 98, 99, 100, 98, 99, 100, 101, 99, 100, 101, 102, 100, 101, 102, 103, 101, 102, 103, 104, 102, 103, 104, 105, 103, 104, 105, 106, 104, 105, 106, 107, 105, 106, 107, 108, 106, 107, 108, 109, 107, 108, 109, 110, 108, 109, 110, 111, 109, 110, 111, 112, 110, 111, 112, 113] := constW_rd w 5 [97, 98, 99, 100, 98, 99, 100, 101, 99, 100, 101, 102, 100, 101, 102, 103, 101, 102, 103, 104, 102, 103, 104, 105, 103, 104, 105, 106, 104, 105, 106, 107, 105, 106, 107, 108, 106, 107, 108, 109, 107, 108, 109, 110, 108, 109, 110, 111, 109, 110, 111, 112, 110, 111, 112, 113] (by decide) (56, 57)
  generalize w.alloc (.cells #[.int .u8 97, .int .u8 98, .int .u8 99, .int .u8 100, .int .u8 98, .int .u8 99, .int .u8 100, .int .u8 101, .int .u8 99, .int .u8 100, .int .u8 101, .int .u8 102, .int .u8 100, .int .u8 101, .int .u8 102, .int .u8 103, .int .u8 101, .int .u8 102, .int .u8 103, .int .u8 104, .int .u8 102, .int .u8 103, .int .u8 104, .int .u8 105, .int .u8 103, .int .u8 104, .int .u8 105, .int .u8 106, .int .u8 104, .int .u8 105, .int .u8 106, .int .u8 107, .int .u8 105, .int .u8 106, .int .u8 107, .int .u8 108, .int .u8 106, .int .u8 107, .int .u8 108, .int .u8 109, .int .u8 107, .int .u8 108, .int .u8 109, .int .u8 110, .int .u8 108, .int .u8 109, .int .u8 110, .int .u8 111, .int .u8 109, .int .u8 110, .int .u8 111, .int .u8 112, .int .u8 110, .int .u8 111, .int .u8 112, .int .u8 113] 5 (56, 57)) = w0 at *
  have HBA := Lib.hid hba
  have HRA := Lib.hid hra
  clear hba hra
  refine (of_any (some ⟨w.heap.size, 0, none⟩) 56 [97, 98, 99, 100, 98, 99, 100, 101, 99, 100, 101, 102, 100, 101, 102, 103, 101, 102, 103, 104, 102, 103, 104, 105, 103, 104, 105, 106, 104, 105, 106, 107, 105, 106, 107, 108, 106, 107, 108, 109, 107, 108, 109, 110, 108, 109, 110, 111, 109, 110, 111, 112, 110, 111, 112, 113] w0 (by decide) HRA.out).mono ?_
  rintro e w1 ⟨rfl, hb1⟩
  have HB1 := Lib.hid (HBA.out.trans (hb1.mono HBA.out.size))
  clear hb1 HRA
  go_wp2_with fail
  refine (hexOf [97, 98, 99, 100, 98, 99, 100, 101, 99, 100, 101, 102, 100, 101, 102, 103, 101, 102, 103, 104, 102, 103, 104, 105, 103, 104, 105, 106, 104, 105, 106, 107, 105, 106, 107, 108, 106, 107, 108, 109, 107, 108, 109, 110, 108, 109, 110, 111, 109, 110, 111, 112, 110, 111, 112, 113] w1).mono ?_
  rintro e w2 ⟨rfl, hb2⟩
  rw [hex_long]
  have HB2 := Lib.hid (HB1.out.trans (hb2.mono HB1.out.size))
  clear hb2
  go_wp2_with fail
  have hcl : ∀ i, i < 14 → (w2.alloc (.cells #[.int .i64 1, .int .i64 54, .int .i64 55, .int .i64 56, .int .i64 57, .int .i64 63, .int .i64 64, .int .i64 65, .int .i64 119, .int .i64 120, .int .i64 127, .int .i64 128, .int .i64 129, .int .i64 1000] 3)).cell? ⟨w2.heap.size, i, none⟩ = some (.int .i64 (nth numL i : Nat)) := numL_cells w2 3 _
  have hbc : Below w.heap.size w (w2.alloc (.cells #[.int .i64 1, .int .i64 54, .int .i64 55, .int .i64 56, .int .i64 57, .int .i64 63, .int .i64 64, .int .i64 65, .int .i64 119, .int .i64 120, .int .i64 127, .int .i64 128, .int .i64 129, .int .i64 1000] 3)) := HB2.out.alloc HB2.out.size _
  have hgs : w2.heap.size < (w2.alloc (.cells #[.int .i64 1, .int .i64 54, .int .i64 55, .int .i64 56, .int .i64 57, .int .i64 63, .int .i64 64, .int .i64 65, .int .i64 119, .int .i64 120, .int .i64 127, .int .i64 128, .int .i64 129, .int .i64 1000] 3)).heap.size := by rw [World.size_alloc]; omega
  generalize w2.alloc (.cells #[.int .i64 1, .int .i64 54, .int .i64 55, .int .i64 56, .int .i64 57, .int .i64 63, .int .i64 64, .int .i64 65, .int .i64 119, .int .i64 120, .int .i64 127, .int .i64 128, .int .i64 129, .int .i64 1000] 3) = X at *
  generalize w2.heap.size = g at *
  generalize bytesV (sha [97, 98, 99, 100, 98, 99, 100, 101, 99, 100, 101, 102, 100, 101, 102, 103, 101, 102, 103, 104, 102, 103, 104, 105, 103, 104, 105, 106, 104, 105, 106, 107, 105, 106, 107, 108, 106, 107, 108, 109, 107, 108, 109, 110, 108, 109, 110, 111, 109, 110, 111, 112, 110, 111, 112, 113]) = bv
  have HCL := Lib.hid hcl
  have HBC := Lib.hid hbc
  have HGS := Lib.hid hgs
  clear hcl hbc hgs HB2 HB1 HBA
  go_loopw [11] (fun v wr => ∃ k : Nat, k ≤ 14 ∧ v = .int .i64 k ∧ Below X.heap.size X wr) (fun v _ => 14 - (intOf v).toNat)
  case atStart => exact ⟨0, by omega, rfl, Below.refl _ _⟩
  case round =>
    obtain ⟨k, hk, rfl, hb⟩ := hrel
    have HB := Lib.hid hb
    clear hb
    by_cases k14 : k < 14
    · have k14' : (k : Int) < 14 := by omega
      obtain ⟨n, hn⟩ : ∃ n, n = nth numL k := ⟨_, rfl⟩
      have hcell : wr.cell? ⟨g, k, none⟩ = some (.int .i64 (n : Nat)) := by
        rw [hn]
        exact (HB.out.cell (p := ⟨g, k, none⟩) HGS.out).trans (HCL.out k k14)
      have hn1 : n ≤ 1000 := by rw [hn]; exact numL_le k
      clear hn
      go_wp2_with fail
      refine (madeL_any n (by omega) wr).mono ?_
      rintro e w1 ⟨v, l, rfl, hl, ho, hb1⟩
      obtain ⟨A, c, rfl, -, -, hr⟩ := ho.form
      have HR := Lib.hid hr
      have HL := Lib.hid hl
      have HB3 := Lib.hid (HB.out.trans (hb1.mono HB.out.size))
      clear hl ho hb1 hr hcell HB
      go_wp2_with fail
      refine (of_c A l.length c l w1 rfl (by rw [HL.out]; omega) HR.out).mono ?_
      rintro e w2 ⟨rfl, hb2⟩
      have HR2 := Lib.hid (HR.out.below hb2)
      have HB4 := Lib.hid (HB3.out.trans (hb2.mono HB3.out.size))
      clear hb2 HR HB3
      go_wp2_with fail
      refine (ref_c A l.length c l w2 rfl (by rw [HL.out]; omega) HR2.out).mono ?_
      rintro e w3 ⟨rfl, hb3⟩
      have HB5 := Lib.hid (HB4.out.trans (hb3.mono HB4.out.size))
      clear hb3 HR2 HB4
      have heq := shaC_eq l
      generalize shaC l = B at *
      go_wp2_with fail
      go_roundw
      case rel =>
        first
        | exact ⟨k + 1, by omega, by go_num, HB5.out⟩
        | (repeat apply Exists.intro); refine ⟨⟨k + 1, by omega, by go_num, HB5.out⟩, rfl⟩
      case measure => simp [intOf]; omega
    · obtain rfl : k = 14 := by omega
      go_wp2_with fail
      refine (shaAwake_any _).mono ?_
      rintro e w5 ⟨rfl, hb5⟩
      have HB6 := Lib.hid (HBC.out.trans ((HB.out.trans (hb5.mono HB.out.size)).mono HBC.out.size))
      clear hb5
      go_wp2_with fail
      go_ret
      exact ⟨rfl, HB6.out⟩
end Go.Proofs.Ytbnhjhdbjffnkaa
