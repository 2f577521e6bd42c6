/-
  THE WALKS OF ref02's Padded, Word; ref03's k. Conditions: the bytes read.
-/
import Derived.Test.YtbnhjhdbjffnkabShaA
import Derived.Test.YtbnhjhdbjffnkabWords
import Derived.Great.BuildSlice
namespace Go.Proofs.Ytbnhjhdbjffnkab
open Go.RowKit
set_option linter.unusedSimpArgs false
set_option linter.unusedVariables false

def wv (x0 x1 x2 x3 : Nat) : Nat → Nat
  | 0 => 0
  | 1 => x0
  | 2 => x0 * 256 + x1
  | 3 => x0 * 65536 + x1 * 256 + x2
  | _ => x0 * 16777216 + x1 * 65536 + x2 * 256 + x3
set_option maxRecDepth 100000 in
set_option maxHeartbeats 2000000 in
theorem word_any (A : Option Addr) (c at_ : Nat) (p : List Nat) (w : World) (hr : Rd w A p) (ha : at_ + 4 ≤ p.length) (hl : p.length ≤ 140737488355328) :
    Calls Try.prog 34 #[.slice A p.length c, .int .i64 at_] w fun e w' => e = .returned (.int .u32 (be4 p at_)) ∧ w = w' := by
  obtain ⟨g, o, rfl, hg, hc⟩ := hr.2 (by intro e; rw [e] at ha; simp at ha)
  have b0 := nth_lt hr.1 at_
  have b1 := nth_lt hr.1 (at_ + 1)
  have b2 := nth_lt hr.1 (at_ + 2)
  have b3 := nth_lt hr.1 (at_ + 3)
  have c0 := hc at_ (by omega)
  have c1 := hc (at_ + 1) (by omega)
  have c2 := hc (at_ + 2) (by omega)
  have c3 := hc (at_ + 3) (by omega)
  have HB : Hid (be4 p at_ = nth p at_ * 16777216 + nth p (at_ + 1) * 65536 + nth p (at_ + 2) * 256 + nth p (at_ + 3)) := rfl
  generalize nth p at_ = x0 at *
  generalize nth p (at_ + 1) = x1 at *
  generalize nth p (at_ + 2) = x2 at *
  generalize nth p (at_ + 3) = x3 at *
  have C0 := Lib.hid c0
  have C1 := Lib.hid c1
  have C2 := Lib.hid c2
  have C3 := Lib.hid c3
  clear hc hr c0 c1 c2 c3
  go_enter Try.func34, Try.ntmps34
  go_wp2_with fail
  go_loop [5, 6] (fun n i => ∃ k : Nat, k ≤ 4 ∧ i = .int .i64 k ∧ n = .int .u32 (wv x0 x1 x2 x3 k : Nat)) (fun _ i => 4 - (intOf i).toNat)
  case atStart => exact ⟨0, by omega, rfl, rfl⟩
  case round =>
    obtain ⟨k, hk, rfl, rfl⟩ := hrel
    have hcase : k = 0 ∨ k = 1 ∨ k = 2 ∨ k = 3 ∨ k = 4 := by omega
    rcases hcase with rfl | rfl | rfl | rfl | rfl
    · have c0 := C0.out
      have d1 : (at_ : Int) < p.length := by omega
      have e1 : IntKind.i64.wrap ((at_ : Int) + 0) = at_ + 0 := by simp [IntKind.wrap, IntKind.signed, IntKind.bits]; omega
      have e2 : ((at_ : Int) + 0).toNat = at_ + 0 := by omega
      have e3 : 0 ≤ (at_ : Int) + 0 := by omega
      go_wp2
      go_round
      case rel => exact ⟨0 + 1, by omega, by go_num, by first | rfl | (refine congrArg (Value.int IntKind.u32) ?_; simp only [wv]; omega)⟩
      case measure => simp [intOf]
    · have c1 := C1.out
      have d1 : (at_ : Int) + 1 < p.length := by omega
      have e1 : IntKind.i64.wrap ((at_ : Int) + 1) = at_ + 1 := by simp [IntKind.wrap, IntKind.signed, IntKind.bits]; omega
      have e2 : ((at_ : Int) + 1).toNat = at_ + 1 := by omega
      have e3 : 0 ≤ (at_ : Int) + 1 := by omega
      go_wp2
      go_round
      case rel => exact ⟨1 + 1, by omega, by go_num, by first | rfl | (refine congrArg (Value.int IntKind.u32) ?_; simp only [wv]; omega)⟩
      case measure => simp [intOf]
    · have c2 := C2.out
      have d1 : (at_ : Int) + 2 < p.length := by omega
      have e1 : IntKind.i64.wrap ((at_ : Int) + 2) = at_ + 2 := by simp [IntKind.wrap, IntKind.signed, IntKind.bits]; omega
      have e2 : ((at_ : Int) + 2).toNat = at_ + 2 := by omega
      have e3 : 0 ≤ (at_ : Int) + 2 := by omega
      go_wp2
      go_round
      case rel => exact ⟨2 + 1, by omega, by go_num, by first | rfl | (refine congrArg (Value.int IntKind.u32) ?_; simp only [wv]; omega)⟩
      case measure => simp [intOf]
    · have c3 := C3.out
      have d1 : (at_ : Int) + 3 < p.length := by omega
      have e1 : IntKind.i64.wrap ((at_ : Int) + 3) = at_ + 3 := by simp [IntKind.wrap, IntKind.signed, IntKind.bits]; omega
      have e2 : ((at_ : Int) + 3).toNat = at_ + 3 := by omega
      have e3 : 0 ≤ (at_ : Int) + 3 := by omega
      go_wp2
      go_round
      case rel => exact ⟨3 + 1, by omega, by go_num, by first | rfl | (refine congrArg (Value.int IntKind.u32) ?_; simp only [wv]; omega)⟩
      case measure => simp [intOf]
    · go_wp2
      go_ret
      exact ⟨by rw [HB.out]; rfl, rfl⟩
set_option maxRecDepth 100000 in
set_option maxHeartbeats 2000000 in
theorem padded_any (A : Option Addr) (c : Nat) (r : List Nat) (W : World) (hr : Rd W A r) (hl : r.length ≤ 35184372088832) :
    Calls Try.prog 32 #[.slice A r.length c] W fun e w' => ∃ v, e = .returned v ∧ Ow w' W.heap.size v (padded r) ∧ Below W.heap.size W w' := by
  have HRW := Lib.hid hr
  clear hr
  go_enter Try.func32, Try.ntmps32
  go_upto_region 4 with (first
    | (at_builtin; refine append_bytes (.tmp 6) (.tmp 7) rfl rfl rfl (Ow.nil W W.heap.size) A r.length c r rfl rfl HRW.out (by simp; omega) (Nat.le_refl _) ?_; intro v1 w1 ho1 hg1 ha1; have hg1 : W.grownBy w1 none := hg1; rw [List.nil_append] at ho1; have HO1 := Lib.hid ho1; have HG1 := Lib.hid hg1; have hs1 := hg1.size; clear ho1 hg1 ha1)
    | (at_builtin; refine append_new (.tmp 9) (.tmp 10) rfl rfl _ _ _ 128 rfl rfl HO1.out rfl (by omega) (by simp; omega) hs1 ?_; intro v2 w2 ho2 hg2 ha2; have HO2 := Lib.hid ho2; have HG2 := Lib.hid hg2; clear ho2 hg2 ha2))
  have hb2 : Below W.heap.size W w2 := by
    have h1 : Below W.heap.size W w1 := below_none' HG1.out
    exact h1.grown HG2.out hs1 (fun k e => ow_base HO1.out e)
  have HB2 := Lib.hid hb2
  clear hb2 HG1 HG2 HO1
  go_loopw [3] (fun v wr => ∃ k : Nat, k ≤ padZ r.length ∧ Ow wr W.heap.size v (r ++ [128] ++ List.replicate k 0) ∧ Below W.heap.size W wr) (fun v _ => match v with
    | .slice _ k _ => r.length + 500 - k
    | _ => 0)
  case atStart => exact ⟨0, by omega, by simpa using HO2.out, HB2.out⟩
  case round =>
    obtain ⟨k, hk, ho, hb⟩ := hrel
    have hpz : padZ r.length < 64 := by unfold padZ; omega
    have hlen : (r ++ [128] ++ List.replicate k 0).length = r.length + 1 + k := by simp; omega
    obtain ⟨A3, c3, rfl, -, -, -⟩ := ho.form
    rw [hlen] at ho
    rw [hlen]
    have HLN := Lib.hid hlen
    clear hlen
    have HO := Lib.hid ho
    have HB := Lib.hid hb
    clear ho hb HO2 HB2
    have hmod := padZ_mod r.length k hk
    have hbs := HB.out.size
    by_cases e0 : k = padZ r.length
    · have m1 : (((r.length : Int) + 1 + k) % 64 != 56) = false := by
        rw [bne_eq_false_iff_eq]
        have := hmod.2 e0
        omega
      have E0 := Lib.hid e0
      have ku : IntKind.u64.wrap (r.length : Int) = r.length := by rw [IntKind.wrap_u64]; omega
      have ku2 : IntKind.u64.wrap ((r.length : Int) * 8) = r.length * 8 := by rw [IntKind.wrap_u64]; omega
      clear e0 hmod
      go_wp2_with fail
      obtain ⟨Z, hZ⟩ : ∃ Z, Z = r ++ [128] ++ List.replicate (padZ r.length) 0 := ⟨_, rfl⟩
      have hzl : Z.length = r.length + 1 + padZ r.length := by rw [hZ, ← E0.out, HLN.out]
      have hoZ : Ow wr W.heap.size (.slice A3 (r.length + 1 + k) c3) (Z ++ (be8 (8 * r.length)).take 0) := by
        have := HO.out
        rw [E0.out] at this ⊢
        rw [← hZ] at this
        simpa using this
      have hPZ : padded r = Z ++ be8 (8 * r.length) := by rw [hZ]; rfl
      have HPZ := Lib.hid hPZ
      have HZL := Lib.hid hzl
      have HOZ := Lib.hid hoZ
      have HB1 := HB
      clear hZ hzl hoZ HO HB m1 hbs hPZ
      go_loopw [3, 5] (fun v i wq => ∃ i' : Nat, i' ≤ 8 ∧ i = .int .i64 (7 - (i' : Int)) ∧ Ow wq W.heap.size v (Z ++ (be8 (8 * r.length)).take i') ∧ Below W.heap.size W wq) (fun _ i _ => (intOf i + 1).toNat)
      case atStart => exact ⟨0, by omega, rfl, HOZ.out, HB1.out⟩
      case round =>
        obtain ⟨i, hi, rfl, ho, hb⟩ := hrel
        have hlen2 : (Z ++ (be8 (8 * r.length)).take i).length = Z.length + i := by simp [be8_length]; omega
        obtain ⟨A5, c5, rfl, -, -, -⟩ := ho.form
        rw [hlen2] at ho
        rw [hlen2]
        have hbs := hb.size
        have HO := Lib.hid ho
        have HB := Lib.hid hb
        have HL2 := Lib.hid hlen2
        clear ho hb hlen2
        have hzl2 : Z.length ≤ 35184372088832 + 200 := by rw [HZL.out]; omega
        by_cases e8 : i = 8
        · subst e8
          go_wp2
          go_ret
          refine ⟨_, rfl, ?_, HB.out⟩
          have := HO.out
          rw [List.take_of_length_le (by rw [be8_length]; omega), ← HPZ.out] at this
          exact this
        · have hcase : i = 0 ∨ i = 1 ∨ i = 2 ∨ i = 3 ∨ i = 4 ∨ i = 5 ∨ i = 6 ∨ i = 7 := by omega
          obtain ⟨b, hbn⟩ : ∃ b, b = nth (be8 (8 * r.length)) i := ⟨_, rfl⟩
          have hbv : b = 8 * r.length / 256 ^ (7 - i) % 256 := by rw [hbn, be8_nth _ (by omega)]
          have hb8 : b < 256 := by omega
          obtain ⟨j, hj⟩ : ∃ j, j = i + 1 := ⟨_, rfl⟩
          have hbt : (be8 (8 * r.length)).take i ++ [b] = (be8 (8 * r.length)).take j := by rw [hbn, hj]; exact be8_take _ (by omega)
          have HBT := Lib.hid hbt
          have HBV := Lib.hid hbv
          have HJ := Lib.hid hj
          clear hbn hbv hbt hj
          rcases hcase with rfl | rfl | rfl | rfl | rfl | rfl | rfl | rfl
          all_goals
            go_wp2_with (at_builtin; refine append_new (.tmp 27) (.tmp 34) rfl rfl _ _ _ b rfl rfl HO.out (by have h := HBV.out; simp only [Nat.reduceSub, Nat.reducePow] at h; omega) hb8 (by rw [HL2.out]; omega) hbs ?_; intro v6 w6 ho6 hg6 ha6; have HO6 := Lib.hid ho6; have HG6 := Lib.hid hg6; clear ho6 hg6 ha6)
            go_roundw
            case rel =>
              refine ⟨j, by rw [HJ.out]; omega, by rw [HJ.out]; rfl, ?_, HB.out.grown HG6.out hbs (fun x e => ow_base HO.out e)⟩
              have := HO6.out
              rw [List.append_assoc, HBT.out] at this
              exact this
            case measure => simp [intOf]
    · have m1 : (((r.length : Int) + 1 + k) % 64 != 56) = true := by
        rw [bne_iff_ne]
        intro e
        exact e0 (hmod.1 (by omega))
      clear hmod
      go_wp2_with (at_builtin; refine append_new (.tmp 16) (.tmp 17) rfl rfl _ _ _ 0 rfl rfl HO.out rfl (by omega) (by rw [HLN.out]; omega) hbs ?_; intro v4 w4 ho4 hg4 ha4; have HO4 := Lib.hid ho4; have HG4 := Lib.hid hg4; clear ho4 hg4 ha4)
      obtain ⟨A4, c4, rfl, -, -, -⟩ := HO4.out.form
      refine ⟨⟨k + 1, by omega, ?_, HB.out.grown HG4.out hbs (fun x e => ow_base HO.out e)⟩, ?_⟩
      · have := HO4.out
        have e1 : r ++ [128] ++ List.replicate k 0 ++ [0] = r ++ [128] ++ List.replicate (k + 1) 0 := by rw [List.append_assoc, ← List.replicate_succ']
        rw [e1] at this ⊢
        exact this
      · show r.length + 500 - (r ++ [128] ++ List.replicate k 0 ++ [0]).length < r.length + 500 - (r.length + 1 + k)
        rw [List.length_append, HLN.out]
        simp
        omega
theorem words_rd (w : World) (e : TypeId) (l : List Nat) (h : ∀ x ∈ l, x < 4294967296) (fr : Nat × Nat) : W32.Rd (w.alloc (.cells (l.map fun x => Value.int .u32 (x : Nat)).toArray e fr)) (some ⟨w.heap.size, 0, none⟩) l := by
  refine ⟨h, fun hl => ⟨w.heap.size, 0, rfl, by simp, fun i hi => ?_⟩⟩
  rw [Nat.zero_add, cell_of_row _ _ _ _ _ _ (heap_alloc_new w _), nth_get hi]
  simp [hi]
set_option maxRecDepth 100000 in
set_option maxHeartbeats 2000000 in
theorem k_any (w : World) : Calls Try.prog 33 #[] w fun e w' => e = .returned (.slice (some ⟨w.heap.size, 0, none⟩) 64 64) ∧ W32.Rd w' (some ⟨w.heap.size, 0, none⟩) kL ∧ Below w.heap.size w w' := by
  have hk : ∀ x ∈ kL, x < 4294967296 := by decide
  have hr := words_rd w 44 kL hk (0, 0)
  have e : ((kL.map fun x => Value.int .u32 (x : Nat)).toArray : Array Value) = #[.int .u32 1116352408, .int .u32 1899447441, .int .u32 3049323471, .int .u32 3921009573, .int .u32 961987163, .int .u32 1508970993, .int .u32 2453635748, .int .u32 2870763221, .int .u32 3624381080, .int .u32 310598401, .int .u32 607225278, .int .u32 1426881987, .int .u32 1925078388, .int .u32 2162078206, .int .u32 2614888103, .int .u32 3248222580, .int .u32 3835390401, .int .u32 4022224774, .int .u32 264347078, .int .u32 604807628, .int .u32 770255983, .int .u32 1249150122, .int .u32 1555081692, .int .u32 1996064986, .int .u32 2554220882, .int .u32 2821834349, .int .u32 2952996808, .int .u32 3210313671, .int .u32 3336571891, .int .u32 3584528711, .int .u32 113926993, .int .u32 338241895, .int .u32 666307205, .int .u32 773529912, .int .u32 1294757372, .int .u32 1396182291, .int .u32 1695183700, .int .u32 1986661051, .int .u32 2177026350, .int .u32 2456956037, .int .u32 2730485921, .int .u32 2820302411, .int .u32 3259730800, .int .u32 3345764771, .int .u32 3516065817, .int .u32 3600352804, .int .u32 4094571909, .int .u32 275423344, .int .u32 430227734, .int .u32 506948616, .int .u32 659060556, .int .u32 883997877, .int .u32 958139571, .int .u32 1322822218, .int .u32 1537002063, .int .u32 1747873779, .int .u32 1955562222, .int .u32 2024104815, .int .u32 2227730452, .int .u32 2361852424, .int .u32 2428436474, .int .u32 2756734187, .int .u32 3204031479, .int .u32 3329325298] := by kernel_rfl
  rw [e] at hr
  have HR := Lib.hid hr
  clear hr e hk
  go_enter Try.func33, Try.ntmps33
  go_wp2
  go_ret
  exact ⟨rfl, HR.out, (Below.refl _ _).alloc (Nat.le_refl _) _⟩
end Go.Proofs.Ytbnhjhdbjffnkab
