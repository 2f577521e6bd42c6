/-
  THE WALK OF digest's Sum. Conditions: the digest lies in memory.
-/
import Derived.Test.YtlhbijpmhokmnaaGreatQ06
import Derived.Laws.Tables
namespace Go.Proofs.YtlhbijpmhokmnaaGreat
open Go.RowKit
set_option linter.unusedSimpArgs false
set_option linter.unusedVariables false

/-- What Sum pads with. -/
def padTo (r : List Nat) (n : Nat) : List Nat := r ++ [128] ++ List.replicate (padZ r.length) 0 ++ be8 (8 * n)
def bytesV (l : List Nat) : Value := .agg (l.map fun x => Value.int .u8 (x : Nat)).toArray
theorem padZ_mod (r k : Nat) (h : k ≤ padZ r) : ((r + 1 + k) % 64 = 56 ↔ k = padZ r) := by
  unfold padZ at h ⊢
  omega
theorem below_none' {w w1 : World} (h : w.grownBy w1 none) : Below w.heap.size w w1 := ⟨h.os, h.tape, h.output, h.size, fun k hk => h.block k hk (by simp)⟩
theorem ow_base {w : World} {base k : Nat} {v : Value} {l : List Nat} (h : Ow w base v l) (e : v.ownBlock = some k) : base ≤ k := by
  obtain ⟨_, _, ⟨rfl, _⟩ | ⟨g, cap, cur, rfl, hg, _⟩⟩ := h
  · cases e
  · obtain rfl : g = k := by injection e
    exact hg
theorem be8_nth (m : Nat) {i : Nat} (h : i < 8) : nth (be8 m) i = m / 256 ^ (7 - i) % 256 := by
  simp [nth, be8, h]
theorem be8_lt (m : Nat) : ∀ x ∈ be8 m, x < 256 := by
  intro x hx
  unfold be8 at hx
  obtain ⟨i, _, rfl⟩ := List.mem_map.1 hx
  exact Nat.mod_lt _ (by omega)
theorem be8_take (m : Nat) {i : Nat} (h : i < 8) : (be8 m).take i ++ [nth (be8 m) i] = (be8 m).take (i + 1) := by
  have hl : i < (be8 m).length := by rw [be8_length]; exact h
  rw [List.take_add_one, List.getElem?_eq_getElem hl, nth_get hl]
  rfl
/-- Bytes do not lie in a row of words. -/
theorem rd_u32 {w w' : World} {V u n : Nat} {F : Nat → Nat} {A : Option Addr} {m : List Nat} (h : w.rowIs V u n (fun j => .int .u32 (F j : Nat))) (hr : Rd w A m) (hg : w.grownBy w' (some V)) : Rd w' A m := by
  by_cases hm : m = []
  · subst hm
    exact ⟨by simp, fun h => absurd rfl h⟩
  · obtain ⟨b, o, rfl, hb, hc⟩ := hr.2 hm
    refine hr.grown hg fun a e => ?_
    injection e with e
    subst e
    intro e
    injection e with e
    subst e
    have h0 := hc 0 (List.length_pos_iff.2 hm)
    obtain ⟨cs, h1, h2, h3⟩ := h
    rw [Nat.add_zero, cell_of_row _ _ _ _ _ _ h1] at h0
    rcases Nat.lt_or_ge o n with ho | ho
    · rw [h3 o ho] at h0
      cases h0
    · rw [Array.getElem?_eq_none (by omega)] at h0
      cases h0
theorem size32 : (Tryz.prog.info? 103).map (·.size) = some 32 := by kernel_rfl
theorem u8_oneCell {cs : Array Value} {n : Nat} {F : Nat → Nat} (h : cs.size = n) (hc : ∀ i, i < n → cs[i]? = some (.int .u8 (F i : Nat))) : cs.all (·.oneCell') = true := by
  rw [Array.all_eq_true]
  intro i hi
  have := hc i (by omega)
  rw [Array.getElem?_eq_getElem hi] at this
  injection this with this
  rw [this]
  rfl
theorem aggB {cs : Array Value} {n : Nat} {F : Nat → Nat} (h : cs.size = n) (hc : ∀ i, i < n → cs[i]? = some (.int .u8 (F i : Nat))) : Value.agg cs = bytesV ((List.range n).map F) := by
  unfold bytesV
  congr 1
  apply Array.ext'
  apply List.ext_getElem?
  intro i
  rw [Array.getElem?_toList]
  rcases Nat.lt_or_ge i n with hi | hi
  · rw [hc i hi]
    simp [hi]
  · rw [Array.getElem?_eq_none (by omega), List.getElem?_eq_none (by simpa using hi)]
theorem outB_int (z : St) (j : Nat) : ((z.word (j / 4) : Int) / 2 ^ (24 - 8 * (j % 4)) % 256) = (outB z j : Nat) := by
  unfold outB
  have e : 256 ^ (3 - j % 4) = 2 ^ (24 - 8 * (j % 4)) := by
    rw [show (256 : Nat) = 2 ^ 8 from rfl, ← Nat.pow_mul]
    congr 1
    omega
  rw [e, Int.natCast_emod, Int.natCast_ediv, Int.natCast_pow]
  rfl
theorem row_upd8v {w : World} {g t n k : Nat} {a b : Nat → Nat} {v : Int} (h : w.rowIs g t n (fun j => .int .u8 (upd k a b j : Nat))) (hv : v = (a k : Nat)) :
    (w.setCell ⟨g, k, none⟩ (.int .u8 v)).rowIs g t n (fun j => .int .u8 (upd (k + 1) a b j : Nat)) := by subst hv; exact row_upd h
theorem two_outs (w : World) : Below w.heap.size w ((w.alloc (.cells #[.int .u8 0, .int .u8 0, .int .u8 0, .int .u8 0, .int .u8 0, .int .u8 0, .int .u8 0, .int .u8 0, .int .u8 0, .int .u8 0, .int .u8 0, .int .u8 0, .int .u8 0, .int .u8 0, .int .u8 0, .int .u8 0, .int .u8 0, .int .u8 0, .int .u8 0, .int .u8 0, .int .u8 0, .int .u8 0, .int .u8 0, .int .u8 0, .int .u8 0, .int .u8 0, .int .u8 0, .int .u8 0, .int .u8 0, .int .u8 0, .int .u8 0, .int .u8 0] 103)).alloc (.cells #[.int .u8 0, .int .u8 0, .int .u8 0, .int .u8 0, .int .u8 0, .int .u8 0, .int .u8 0, .int .u8 0, .int .u8 0, .int .u8 0, .int .u8 0, .int .u8 0, .int .u8 0, .int .u8 0, .int .u8 0, .int .u8 0, .int .u8 0, .int .u8 0, .int .u8 0, .int .u8 0, .int .u8 0, .int .u8 0, .int .u8 0, .int .u8 0, .int .u8 0, .int .u8 0, .int .u8 0, .int .u8 0, .int .u8 0, .int .u8 0, .int .u8 0, .int .u8 0] 103)) ∧ ((w.alloc (.cells #[.int .u8 0, .int .u8 0, .int .u8 0, .int .u8 0, .int .u8 0, .int .u8 0, .int .u8 0, .int .u8 0, .int .u8 0, .int .u8 0, .int .u8 0, .int .u8 0, .int .u8 0, .int .u8 0, .int .u8 0, .int .u8 0, .int .u8 0, .int .u8 0, .int .u8 0, .int .u8 0, .int .u8 0, .int .u8 0, .int .u8 0, .int .u8 0, .int .u8 0, .int .u8 0, .int .u8 0, .int .u8 0, .int .u8 0, .int .u8 0, .int .u8 0, .int .u8 0] 103)).alloc (.cells #[.int .u8 0, .int .u8 0, .int .u8 0, .int .u8 0, .int .u8 0, .int .u8 0, .int .u8 0, .int .u8 0, .int .u8 0, .int .u8 0, .int .u8 0, .int .u8 0, .int .u8 0, .int .u8 0, .int .u8 0, .int .u8 0, .int .u8 0, .int .u8 0, .int .u8 0, .int .u8 0, .int .u8 0, .int .u8 0, .int .u8 0, .int .u8 0, .int .u8 0, .int .u8 0, .int .u8 0, .int .u8 0, .int .u8 0, .int .u8 0, .int .u8 0, .int .u8 0] 103)).rowIs w.heap.size 103 32 (fun _ => .int .u8 0) ∧
    ((w.alloc (.cells #[.int .u8 0, .int .u8 0, .int .u8 0, .int .u8 0, .int .u8 0, .int .u8 0, .int .u8 0, .int .u8 0, .int .u8 0, .int .u8 0, .int .u8 0, .int .u8 0, .int .u8 0, .int .u8 0, .int .u8 0, .int .u8 0, .int .u8 0, .int .u8 0, .int .u8 0, .int .u8 0, .int .u8 0, .int .u8 0, .int .u8 0, .int .u8 0, .int .u8 0, .int .u8 0, .int .u8 0, .int .u8 0, .int .u8 0, .int .u8 0, .int .u8 0, .int .u8 0] 103)).alloc (.cells #[.int .u8 0, .int .u8 0, .int .u8 0, .int .u8 0, .int .u8 0, .int .u8 0, .int .u8 0, .int .u8 0, .int .u8 0, .int .u8 0, .int .u8 0, .int .u8 0, .int .u8 0, .int .u8 0, .int .u8 0, .int .u8 0, .int .u8 0, .int .u8 0, .int .u8 0, .int .u8 0, .int .u8 0, .int .u8 0, .int .u8 0, .int .u8 0, .int .u8 0, .int .u8 0, .int .u8 0, .int .u8 0, .int .u8 0, .int .u8 0, .int .u8 0, .int .u8 0] 103)).rowIs (w.heap.size + 1) 103 32 (fun _ => .int .u8 0) ∧ ((w.alloc (.cells #[.int .u8 0, .int .u8 0, .int .u8 0, .int .u8 0, .int .u8 0, .int .u8 0, .int .u8 0, .int .u8 0, .int .u8 0, .int .u8 0, .int .u8 0, .int .u8 0, .int .u8 0, .int .u8 0, .int .u8 0, .int .u8 0, .int .u8 0, .int .u8 0, .int .u8 0, .int .u8 0, .int .u8 0, .int .u8 0, .int .u8 0, .int .u8 0, .int .u8 0, .int .u8 0, .int .u8 0, .int .u8 0, .int .u8 0, .int .u8 0, .int .u8 0, .int .u8 0] 103)).alloc (.cells #[.int .u8 0, .int .u8 0, .int .u8 0, .int .u8 0, .int .u8 0, .int .u8 0, .int .u8 0, .int .u8 0, .int .u8 0, .int .u8 0, .int .u8 0, .int .u8 0, .int .u8 0, .int .u8 0, .int .u8 0, .int .u8 0, .int .u8 0, .int .u8 0, .int .u8 0, .int .u8 0, .int .u8 0, .int .u8 0, .int .u8 0, .int .u8 0, .int .u8 0, .int .u8 0, .int .u8 0, .int .u8 0, .int .u8 0, .int .u8 0, .int .u8 0, .int .u8 0] 103)).heap.size = w.heap.size + 2 := by
  have e : (#[.int .u8 0, .int .u8 0, .int .u8 0, .int .u8 0, .int .u8 0, .int .u8 0, .int .u8 0, .int .u8 0, .int .u8 0, .int .u8 0, .int .u8 0, .int .u8 0, .int .u8 0, .int .u8 0, .int .u8 0, .int .u8 0, .int .u8 0, .int .u8 0, .int .u8 0, .int .u8 0, .int .u8 0, .int .u8 0, .int .u8 0, .int .u8 0, .int .u8 0, .int .u8 0, .int .u8 0, .int .u8 0, .int .u8 0, .int .u8 0, .int .u8 0, .int .u8 0] : Array Value) = ((List.range 32).map fun _ => Value.int .u8 0).toArray := by kernel_rfl
  rw [e]
  refine ⟨((Below.refl _ _).alloc (Nat.le_refl _) _).alloc (by simp) _, ?_, ?_, by simp⟩
  · exact (rowNew rfl (by simp) fun i hi => by simp [hi]).alloc _
  · exact rowNew (by simp) (by simp) fun i hi => by simp [hi]
set_option maxRecDepth 100000 in
set_option maxHeartbeats 2000000 in
theorem sum_any {w : World} {g n : Nat} {s : St} {rA : Option Addr} {rc : Nat} {r : List Nat} (h : Dr w g s (.slice rA r.length rc) n) (hr : Rd w rA r) (hrl : r.length < 64) (hn : n ≤ 70368744177664) :
    Calls Tryz.prog 95 #[.pointer (some ⟨g, 0, none⟩)] w fun e w' => e = .returned (bytesV (sumOf (chain s (padTo r n) ((padTo r n).length / 64)))) ∧ Below w.heap.size w w' := by
  have hgl := h.lt
  have H := Lib.hid h
  have HR := Lib.hid hr
  have c0 := h.made
  clear h hr
  go_enter Tryz.func95, Tryz.ntmps95
  go_upto_region 4 with fail
  obtain ⟨hb0, hr0, hr1, hz0⟩ := two_outs w
  generalize (w.alloc (.cells #[.int .u8 0, .int .u8 0, .int .u8 0, .int .u8 0, .int .u8 0, .int .u8 0, .int .u8 0, .int .u8 0, .int .u8 0, .int .u8 0, .int .u8 0, .int .u8 0, .int .u8 0, .int .u8 0, .int .u8 0, .int .u8 0, .int .u8 0, .int .u8 0, .int .u8 0, .int .u8 0, .int .u8 0, .int .u8 0, .int .u8 0, .int .u8 0, .int .u8 0, .int .u8 0, .int .u8 0, .int .u8 0, .int .u8 0, .int .u8 0, .int .u8 0, .int .u8 0] 103)).alloc (.cells #[.int .u8 0, .int .u8 0, .int .u8 0, .int .u8 0, .int .u8 0, .int .u8 0, .int .u8 0, .int .u8 0, .int .u8 0, .int .u8 0, .int .u8 0, .int .u8 0, .int .u8 0, .int .u8 0, .int .u8 0, .int .u8 0, .int .u8 0, .int .u8 0, .int .u8 0, .int .u8 0, .int .u8 0, .int .u8 0, .int .u8 0, .int .u8 0, .int .u8 0, .int .u8 0, .int .u8 0, .int .u8 0, .int .u8 0, .int .u8 0, .int .u8 0, .int .u8 0] 103) = W at *
  have hd := H.out.below hb0
  have hrW := HR.out.below hb0
  have c73 := hd.rest
  have HD := Lib.hid hd
  have HRW := Lib.hid hrW
  have HB0 := Lib.hid hb0
  have HR0 := Lib.hid hr0
  have HR1 := Lib.hid hr1
  have hBW : W.heap.size ≤ W.heap.size := Nat.le_refl _
  clear hd hrW hb0 hr0 hr1 H HR c0
  go_upto_region 5 with (first
    | (at_builtin; refine append_bytes (.const (.slice none 0 0)) (.tmp 21) rfl rfl rfl (Ow.nil W W.heap.size) rA r.length rc r rfl rfl HRW.out (by simp; omega) (Nat.le_refl _) ?_; intro v1 w1 ho1 hg1 ha1; have hg1 : W.grownBy w1 none := hg1; rw [List.nil_append] at ho1; have HO1 := Lib.hid ho1; have HG1 := Lib.hid hg1; have hs1 := hg1.size; clear ho1 hg1 ha1)
    | (at_builtin; refine append_new (.tmp 22) (.tmp 23) rfl rfl _ _ _ 128 rfl rfl HO1.out rfl (by omega) (by simp; omega) hs1 ?_; intro v2 w2 ho2 hg2 ha2; have HO2 := Lib.hid ho2; have HG2 := Lib.hid hg2; clear ho2 hg2 ha2))
  have hb2 : Below W.heap.size W w2 := by
    have h1 : Below W.heap.size W w1 := below_none' HG1.out
    exact h1.grown HG2.out hs1 (fun k e => ow_base HO1.out e)
  have HB2 := Lib.hid hb2
  clear hb2 HG1 HG2 HO1
  go_loopw [4] (fun v wr => ∃ k : Nat, k ≤ padZ r.length ∧ Ow wr W.heap.size v (r ++ [128] ++ List.replicate k 0) ∧ Below W.heap.size W wr) (fun v _ => match v with
    | .slice _ k _ => 500 - k
    | _ => 0)
  case atStart => exact ⟨0, by omega, by simpa using HO2.out, HB2.out⟩
  case round =>
    obtain ⟨k, hk, ho, hb⟩ := hrel
    have hpz : padZ r.length < 64 := by unfold padZ; omega
    have hlen : (r ++ [128] ++ List.replicate k 0).length = r.length + 1 + k := by simp; omega
    obtain ⟨A3, c3, rfl, -, -, -⟩ := ho.form
    rw [hlen] at ho
    rw [hlen]
    have HLN := Lib.hid hlen
    clear hlen
    have HO := Lib.hid ho
    have HB := Lib.hid hb
    clear ho hb HO2 HB2
    have hmod := padZ_mod r.length k hk
    have hbs := HB.out.size
    by_cases e0 : k = padZ r.length
    · have m1 : (((r.length : Int) + 1 + k) % 64 != 56) = false := by
        rw [bne_eq_false_iff_eq]
        have := hmod.2 e0
        omega
      have E0 := Lib.hid e0
      clear e0 hmod
      go_wp2_with fail
      obtain ⟨Z, hZ⟩ : ∃ Z, Z = r ++ [128] ++ List.replicate (padZ r.length) 0 := ⟨_, rfl⟩
      have hzl : Z.length = r.length + 1 + padZ r.length := by rw [hZ, ← E0.out, HLN.out]
      have hoZ : Ow wr W.heap.size (.slice A3 (r.length + 1 + k) c3) (Z ++ (be8 (8 * n)).take 0) := by
        have := HO.out
        rw [E0.out] at this ⊢
        rw [← hZ] at this
        simpa using this
      have HZ := Lib.hid hZ
      have HZL := Lib.hid hzl
      have HOZ := Lib.hid hoZ
      have HB1 := HB
      clear hZ hzl hoZ HO HB m1 hbs
      go_loopw [4, 32] (fun v i wq => ∃ i' : Nat, i' ≤ 8 ∧ i = .int .i64 i' ∧ Ow wq W.heap.size v (Z ++ (be8 (8 * n)).take i') ∧ Below W.heap.size W wq) (fun _ i _ => 8 - (intOf i).toNat)
      case atStart => exact ⟨0, by omega, rfl, HOZ.out, HB1.out⟩
      case round =>
        obtain ⟨i, hi, rfl, ho, hb⟩ := hrel
        have hlen2 : (Z ++ (be8 (8 * n)).take i).length = Z.length + i := by simp [be8_length]; omega
        obtain ⟨A5, c5, rfl, -, -, -⟩ := ho.form
        rw [hlen2] at ho
        rw [hlen2]
        have c74 := (HD.out.below hb).num
        have hbs := hb.size
        have HO := Lib.hid ho
        have HB := Lib.hid hb
        have HL2 := Lib.hid hlen2
        clear ho hb hlen2
        by_cases e8 : i = 8
        · subst e8
          go_upto_region 12 with fail
          have hdw := HD.out.below HB.out
          obtain ⟨P, hP⟩ : ∃ P, P = padTo r n := ⟨_, rfl⟩
          have hPZ : P = Z ++ be8 (8 * n) := by rw [hP, HZ.out]; rfl
          have hPl : P.length = Z.length + 8 := by rw [hPZ]; simp [be8_length]
          have hoP : Ow wr W.heap.size (.slice A5 (Z.length + 8) c5) P := by
            have := HO.out
            rw [List.take_of_length_le (by rw [be8_length]; omega), ← hPZ] at this
            exact this
          have hP64 : P.length % 64 = 0 := by
            have h1 := HZL.out
            have h2 : padZ r.length = (55 + 64 - r.length % 64) % 64 := rfl
            rw [hPl, h1]
            omega
          obtain ⟨A6, c6, e6, hc6, hA6, hr6⟩ := hoP.form
          obtain ⟨bb, ⟨A7, c7, e7, hc7, hm7, hr7⟩, -⟩ := hoP.sl'
          rw [← hPl] at e6 e7 ⊢
          injection e6 with e6a e6b e6c
          subst e6a; subst e6c
          injection e7 with e7a e7b e7c
          subst e7a; subst e7c
          obtain ⟨x1, x2, x3, x4, x5, x6, x7, x8⟩ := hdw.hs
          have HDW := Lib.hid hdw
          have HP := Lib.hid hP
          have HP64 := Lib.hid hP64
          have HR6 := Lib.hid hr6
          have HPL := Lib.hid hPl
          clear hdw hP hPZ hPl hoP hP64 hA6 hr6 hr7 c74 HO HZ HZL
          go_wp2_with fail
          have hrH : (wr.alloc (.cells #[.int .u32 s.a, .int .u32 s.b, .int .u32 s.c, .int .u32 s.d, .int .u32 s.e, .int .u32 s.f, .int .u32 s.g, .int .u32 s.h] 139)).rowIs wr.heap.size 139 8 (fun j => .int .u32 (s.word j : Nat)) :=
            rowNew rfl rfl fun i hi => by
              match i, hi with
              | 0, _ => rfl
              | 1, _ => rfl
              | 2, _ => rfl
              | 3, _ => rfl
              | 4, _ => rfl
              | 5, _ => rfl
              | 6, _ => rfl
              | 7, _ => rfl
          have hdX := HDW.out.below ((Below.refl wr.heap.size wr).alloc (Nat.le_refl _) (.cells #[.int .u32 s.a, .int .u32 s.b, .int .u32 s.c, .int .u32 s.d, .int .u32 s.e, .int .u32 s.f, .int .u32 s.g, .int .u32 s.h] 139))
          have hrX := HR6.out.alloc (.cells #[.int .u32 s.a, .int .u32 s.b, .int .u32 s.c, .int .u32 s.d, .int .u32 s.e, .int .u32 s.f, .int .u32 s.g, .int .u32 s.h] 139)
          have hbX := HB.out.alloc hbs (.cells #[.int .u32 s.a, .int .u32 s.b, .int .u32 s.c, .int .u32 s.d, .int .u32 s.e, .int .u32 s.f, .int .u32 s.g, .int .u32 s.h] 139)
          generalize wr.alloc (.cells #[.int .u32 s.a, .int .u32 s.b, .int .u32 s.c, .int .u32 s.d, .int .u32 s.e, .int .u32 s.f, .int .u32 s.g, .int .u32 s.h] 139) = X at *
          have hgH : g < wr.heap.size := HDW.out.lt
          generalize hHb : wr.heap.size = Hb at *
          have HRH := Lib.hid hrH
          have HDX := Lib.hid hdX
          have HRX := Lib.hid hrX
          have HBX := Lib.hid hbX
          clear hrH hdX hrX hbX x1 x2 x3 x4 x5 x6 x7 x8 hHb
          go_loopw [4] (fun v wq => ∃ (i : Nat) (A' : Option Addr) (c' : Nat), 64 * i ≤ P.length ∧ v = .slice A' (P.length - 64 * i) c' ∧ Rd wq A' (P.drop (64 * i)) ∧ P.length - 64 * i ≤ c' ∧ c' ≤ 9223372036854775807 ∧ wq.rowIs Hb 139 8 (fun j => .int .u32 ((chain s P i).word j : Nat)) ∧ Chg X wq (fun k => k = Hb)) (fun v _ => match v with
            | .slice _ k _ => k
            | _ => 0)
          case atStart => exact ⟨0, A5, c5, by omega, rfl, by simpa using HRX.out, hc6, hm7, HRH.out, Chg.refl _ _⟩
          case round =>
            obtain ⟨i, A', c', hi, rfl, hr', hcc, hc63, hrow, hch⟩ := hrel
            obtain ⟨q, hq⟩ : ∃ q, q = P.length - 64 * i := ⟨_, rfl⟩
            rw [← hq] at hcc
            rw [← hq]
            have hql : (P.drop (64 * i)).length = q := by simp; omega
            have hq64 : q % 64 = 0 := by have := HP64.out; omega
            have hdq : Dr wr g s (.slice rA r.length rc) n := HDX.out.of (hch.block g HDX.out.lt (by omega))
            have HR' := Lib.hid hr'
            have HRow := Lib.hid hrow
            have HCH := Lib.hid hch
            have HDQ := Lib.hid hdq
            by_cases h64 : q = 0
            · have hi2 : i = P.length / 64 := by omega
              have k0 : ¬ (0 : Int) < q := by omega
              have HI := Lib.hid hi2
              clear hr' hrow hch hdq hq hql hi2
              go_wp2_with fail
              obtain ⟨z, hz⟩ : ∃ z, z = chain s P i := ⟨_, rfl⟩
              have hzw : z.Wf := by rw [hz]; exact chain_wf HDX.out.wf _ _
              have hrow := HRow.out
              rw [← hz] at hrow
              have hO : wr.rowIs (w.heap.size + 1) 103 32 (fun _ => .int .u8 0) := HR1.out.of_block ((HCH.out.block _ (by have := HBX.out.size; omega) (by omega)).trans (HBX.out.block _ (by omega)))
              have hR : wr.rowIs w.heap.size 103 32 (fun _ => .int .u8 0) := HR0.out.of_block ((HCH.out.block _ (by have := HBX.out.size; omega) (by omega)).trans (HBX.out.block _ (by omega)))
              have hbw : Below w.heap.size w wr := (HB0.out.trans (HBX.out.mono (by omega))).trans (HCH.out.below (B := w.heap.size) (fun k e => by omega) (by have := HBX.out.size; omega))
              have HZ := Lib.hid hz
              have HZW := Lib.hid hzw
              have HRw := Lib.hid hrow
              have HOR := Lib.hid hO
              have HRR := Lib.hid hR
              have HBW := Lib.hid hbw
              have hsz1 : w.heap.size + 2 ≤ wr.heap.size := by have := HBX.out.size; have := HCH.out.size; omega
              have hsz2 : w.heap.size + 2 ≤ Hb := by omega
              have hsz3 : Hb < wr.heap.size := HRw.out.lt
              clear hz hzw hrow hO hR hbw
              generalize hwy : wr = Y at *
              clear hwy
              go_loopw [64] (fun v wq => ∃ i' : Nat, i' ≤ 32 ∧ v = .int .i64 i' ∧ wq.rowIs (w.heap.size + 1) 103 32 (fun j => .int .u8 (upd i' (outB z) (fun _ => 0) j : Nat)) ∧ Y.grownBy wq (some (w.heap.size + 1))) (fun v _ => 32 - (intOf v).toNat)
              case atStart => exact ⟨0, by omega, rfl, HOR.out.congr (fun j hj => by rw [upd_zero]; rfl), grown_refl _ _⟩
              case round =>
                obtain ⟨j, hj, rfl, hro, hg⟩ := hrel
                have HRo := Lib.hid hro
                have HG := Lib.hid hg
                clear hro hg
                by_cases j32 : j < 32
                · have hrh := HRw.out.of_block (HG.out.block Hb hsz3 (by intro e; injection e with e; omega))
                  have c1 := hrh.cell (i := j / 4) (by omega)
                  have c2 := HRo.out.cell j32
                  have x2 := HRo.out.frozen j
                  have d1 : ((j : Int) / 4).toNat = j / 4 := by omega
                  have d2 : (j : Int) / 4 < 8 := by omega
                  have d3 : 0 ≤ (j : Int) / 4 := by omega
                  have d4 : (j : Int) < 32 := by omega
                  have hzl := word_lt HZW.out (j / 4)
                  have HZL := Lib.hid hzl
                  clear hrh hzl
                  have e1 : IntKind.i64.wrap (24 - 8 * ((j : Int) % 4)) = ((24 - 8 * (j % 4) : Nat) : Int) := by simp [IntKind.wrap, IntKind.signed, IntKind.bits]; omega
                  go_upto_region 19 with fail
                  go_wp2
                  refine ⟨⟨j + 1, by omega, by go_num, ?_, grown_set (p := ⟨w.heap.size + 1, j, none⟩) HG.out (.inl rfl) _⟩, by simp [intOf]; omega⟩
                  exact row_upd8v HRo.out (outB_int z j)
                · obtain rfl : j = 32 := by omega
                  have hro := HRo.out.congr (g := fun j => .int .u8 (outB z j : Nat)) (fun j hj => by rw [upd_lt _ _ hj])
                  obtain ⟨cs, hcs, hcn, hci⟩ := hro
                  obtain ⟨ds, hds, hdn, hdi⟩ := HRR.out.of_block (HG.out.block w.heap.size (by omega) (by intro e; injection e with e; omega))
                  have hbr := below_of_grown HBW.out HG.out (by omega) (by omega)
                  have CS := Lib.hid hcs
                  have CN := Lib.hid hcn
                  have CI := Lib.hid hci
                  have DS := Lib.hid hds
                  have DN := Lib.hid hdn
                  have HBR := Lib.hid hbr
                  clear hcs hcn hci hds hdn hdi hbr HRo HG
                  go_wp2_with (first
                    | (refine wpList_load_row rfl 103 (.tmp 3) rfl (w.heap.size + 1) rfl 103 cs (0, 0) _ CS.out Tryz.underlying103 rfl (by rw [CN.out]; exact size32) ?_)
                    | (refine wpList_store_row rfl 103 (.tmp 2) (.tmp 80) rfl w.heap.size cs rfl rfl 103 ds DS.out (by rw [CN.out]; exact size32) (by rw [CN.out, DN.out]) (u8_oneCell CN.out CI.out) ?_))
                  (try simp only [Exit.inBlock, Exit.then])
                  refine bodyPost_ret (results_cell_row rfl _ _ w.heap.size 103 cs (0, 0) _ rfl (setRow_heap _ _ _ _ _ _ DS.out) Tryz.underlying103 rfl (by rw [CN.out]; exact size32)) rfl ?_
                  refine ⟨?_, below_setRow HBR.out (Nat.le_refl _) _⟩
                  rw [← HP.out, ← HI.out, ← HZ.out, aggB CN.out CI.out]
                  rfl
            · have k0 : (0 : Int) < q := by omega
              have k1 : (64 : Int) ≤ q := by omega
              have k2 : (64 : Int) ≤ c' := by omega
              have k3 : 64 ≤ c' := by omega
              obtain ⟨z, hz⟩ : ∃ z, z = chain s P i := ⟨_, rfl⟩
              have hzw : z.Wf := by rw [hz]; exact chain_wf HDX.out.wf _ _
              rw [← hz] at hrow
              have x0 : wr.cell? ⟨Hb, 0, none⟩ = some (.int .u32 z.a) := hrow.cell (i := 0) (by omega)
              have x1 : wr.cell? ⟨Hb, 1, none⟩ = some (.int .u32 z.b) := hrow.cell (i := 1) (by omega)
              have x2 : wr.cell? ⟨Hb, 2, none⟩ = some (.int .u32 z.c) := hrow.cell (i := 2) (by omega)
              have x3 : wr.cell? ⟨Hb, 3, none⟩ = some (.int .u32 z.d) := hrow.cell (i := 3) (by omega)
              have x4 : wr.cell? ⟨Hb, 4, none⟩ = some (.int .u32 z.e) := hrow.cell (i := 4) (by omega)
              have x5 : wr.cell? ⟨Hb, 5, none⟩ = some (.int .u32 z.f) := hrow.cell (i := 5) (by omega)
              have x6 : wr.cell? ⟨Hb, 6, none⟩ = some (.int .u32 z.g) := hrow.cell (i := 6) (by omega)
              have x7 : wr.cell? ⟨Hb, 7, none⟩ = some (.int .u32 z.h) := hrow.cell (i := 7) (by omega)
              have hp64 : ((P.drop (64 * i)).take 64).length = 64 := by simp; omega
              have hrp : Rd wr A' ((P.drop (64 * i)).take 64) := rd_take hr' 64
              have HZ := Lib.hid hz
              have HZW := Lib.hid hzw
              have HRow2 := Lib.hid hrow
              have HPP := Lib.hid hp64
              have HRP := Lib.hid hrp
              have HQ := Lib.hid hq
              clear hr' hrow hch hdq hq hql hz hzw hp64 hrp HRow
              go_upto_region 15 with fail
              go_region_law (first
                | (go_simp; go_at_call 108; (with_reducible refine (block_any g z HZW.out A' c' ((P.drop (64 * i)).take 64) HPP.out wr.drew HRP.out.drew (HDQ.out.of (w' := wr.drew) rfl).k).mono ?_); rintro e w3 ⟨he, hb3⟩
                   obtain ⟨y, hy⟩ : ∃ y, y = blk z ((P.drop (64 * i)).take 64) := ⟨_, rfl⟩
                   rw [← hy] at he
                   unfold stV at he
                   subst he
                   have HY := Lib.hid hy
                   have HB3 : Hid (Below wr.heap.size wr w3) := (below_drewN' (Below.refl _ _) 1).trans hb3
                   have hr3 := HRow2.out.of_block (HB3.out.block Hb HRow2.out.lt)
                   have u0 := hr3.cell (i := 0) (by omega)
                   have u1 := hr3.cell (i := 1) (by omega)
                   have u2 := hr3.cell (i := 2) (by omega)
                   have u3 := hr3.cell (i := 3) (by omega)
                   have u4 := hr3.cell (i := 4) (by omega)
                   have u5 := hr3.cell (i := 5) (by omega)
                   have u6 := hr3.cell (i := 6) (by omega)
                   have u7 := hr3.cell (i := 7) (by omega)
                   have f0 := hr3.frozen 0
                   have f1 := hr3.frozen 1
                   have f2 := hr3.frozen 2
                   have f3 := hr3.frozen 3
                   have f4 := hr3.frozen 4
                   have f5 := hr3.frozen 5
                   have f6 := hr3.frozen 6
                   have f7 := hr3.frozen 7
                   have HR3 := Lib.hid hr3
                   clear hb3 hy hr3))
              all_goals
                have hr4 := row8_set HR3.out (.int .u32 (y.a : Nat)) (.int .u32 (y.b : Nat)) (.int .u32 (y.c : Nat)) (.int .u32 (y.d : Nat)) (.int .u32 (y.e : Nat)) (.int .u32 (y.f : Nat)) (.int .u32 (y.g : Nat)) (.int .u32 (y.h : Nat)) (fun j => .int .u32 (y.word j : Nat)) rfl rfl rfl rfl rfl rfl rfl rfl
                have hg4 := grown8 (V := Hb) (grown_refl w3 (some Hb)) (.int .u32 (y.a : Nat)) (.int .u32 (y.b : Nat)) (.int .u32 (y.c : Nat)) (.int .u32 (y.d : Nat)) (.int .u32 (y.e : Nat)) (.int .u32 (y.f : Nat)) (.int .u32 (y.g : Nat)) (.int .u32 (y.h : Nat))
                generalize (((((((w3.setCell ⟨Hb, 0, none⟩ (.int .u32 (y.a : Nat))).setCell ⟨Hb, 1, none⟩ (.int .u32 (y.b : Nat))).setCell ⟨Hb, 2, none⟩ (.int .u32 (y.c : Nat))).setCell ⟨Hb, 3, none⟩ (.int .u32 (y.d : Nat))).setCell ⟨Hb, 4, none⟩ (.int .u32 (y.e : Nat))).setCell ⟨Hb, 5, none⟩ (.int .u32 (y.f : Nat))).setCell ⟨Hb, 6, none⟩ (.int .u32 (y.g : Nat))).setCell ⟨Hb, 7, none⟩ (.int .u32 (y.h : Nat)) = w4 at *
                have hch4 : Chg X w4 (fun k => k = Hb) := (HCH.out.trans (Chg.of_below (S := fun k => k = Hb) HB3.out (fun k h1 h2 => by omega)) fun x _ h => h).trans (Chg.grown (S := fun k => k = Hb) hg4 (fun k e => by injection e with e; exact e.symm)) (fun x _ h => h)
                have hrd4 : Rd w4 A' (P.drop (64 * i)) := rd_u32 HR3.out (HR'.out.below HB3.out) hg4
                have hy : chain s P (i + 1) = y := by rw [chain, ← HZ.out, ← HY.out]
                rw [← hy] at hr4
                have HR4 := Lib.hid hr4
                have HC4 := Lib.hid hch4
                have HRd4 := Lib.hid hrd4
                have hq2 : P.length - 64 * (i + 1) = q - 64 := by have := HQ.out; omega
                have HQ2 := Lib.hid hq2
                have k4 : ((q : Int) - 64) = ((q - 64 : Nat) : Int) := by omega
                have k5 : ((c' : Int) - 64) = ((c' - 64 : Nat) : Int) := by omega
                clear hr4 hg4 hch4 hrd4 hy hq2 u0 u1 u2 u3 u4 u5 u6 u7 f0 f1 f2 f3 f4 f5 f6 f7 x0 x1 x2 x3 x4 x5 x6 x7
                by_cases e64 : c' = 64
                · have hrd : Rd w4 A' (P.drop (64 * (i + 1))) := by
                    have := rd_drop_same HRd4.out 64 (by have := HQ.out; simp; omega)
                    rw [List.drop_drop] at this
                    exact this
                  have HRD := Lib.hid hrd
                  clear hrd
                  go_wp2
                  refine ⟨⟨i + 1, A', 0, by have := HQ.out; omega, by rw [HQ2.out], HRD.out, by rw [HQ2.out]; omega, by omega, HR4.out, HC4.out⟩, ?_⟩
                  show q - 64 < q
                  omega
                · have hrd : Rd w4 (A'.map fun x => ⟨x.block, x.off + 64, none⟩) (P.drop (64 * (i + 1))) := by
                    have := rd_drop_on HRd4.out 64
                    rw [List.drop_drop] at this
                    exact this
                  have HRD := Lib.hid hrd
                  clear hrd
                  go_wp2
                  refine ⟨⟨i + 1, A'.map fun x => (⟨x.block, x.off + 64, none⟩ : Addr), c' - 64, by have := HQ.out; omega, by rw [HQ2.out], HRD.out, by rw [HQ2.out]; omega, by omega, HR4.out, HC4.out⟩, ?_⟩
                  show q - 64 < q
                  omega
        · have hcase : i = 0 ∨ i = 1 ∨ i = 2 ∨ i = 3 ∨ i = 4 ∨ i = 5 ∨ i = 6 ∨ i = 7 := by omega
          have ku : IntKind.u64.wrap (n : Int) = n := by rw [IntKind.wrap_u64]; omega
          have ku2 : IntKind.u64.wrap ((n : Int) * 8) = n * 8 := by rw [IntKind.wrap_u64]; omega
          have hzl2 : Z.length ≤ 200 := by rw [HZL.out]; omega
          obtain ⟨b, hbn⟩ : ∃ b, b = nth (be8 (8 * n)) i := ⟨_, rfl⟩
          have hbv : b = 8 * n / 256 ^ (7 - i) % 256 := by rw [hbn, be8_nth _ (by omega)]
          have hb8 : b < 256 := by omega
          obtain ⟨j, hj⟩ : ∃ j, j = i + 1 := ⟨_, rfl⟩
          have hbt : (be8 (8 * n)).take i ++ [b] = (be8 (8 * n)).take j := by rw [hbn, hj]; exact be8_take _ (by omega)
          have HBT := Lib.hid hbt
          have HBV := Lib.hid hbv
          have HJ := Lib.hid hj
          clear hbn hbv hbt hj
          rcases hcase with rfl | rfl | rfl | rfl | rfl | rfl | rfl | rfl
          all_goals
            go_wp2_with (at_builtin; refine append_new (.tmp 35) (.tmp 47) rfl rfl _ _ _ b rfl rfl HO.out (by have h := HBV.out; simp only [Nat.reduceSub, Nat.reducePow] at h; omega) hb8 (by rw [HL2.out]; omega) hbs ?_; intro v6 w6 ho6 hg6 ha6; have HO6 := Lib.hid ho6; have HG6 := Lib.hid hg6; clear ho6 hg6 ha6)
            go_roundw
            case rel =>
              refine ⟨j, by rw [HJ.out]; omega, by rw [HJ.out]; rfl, ?_, HB.out.grown HG6.out hbs (fun x e => ow_base HO.out e)⟩
              have := HO6.out
              rw [List.append_assoc, HBT.out] at this
              exact this
            case measure => simp [intOf]
    · have m1 : (((r.length : Int) + 1 + k) % 64 != 56) = true := by
        rw [bne_iff_ne]
        intro e
        exact e0 (hmod.1 (by omega))
      clear hmod
      go_wp2_with (at_builtin; refine append_new (.tmp 29) (.tmp 30) rfl rfl _ _ _ 0 rfl rfl HO.out rfl (by omega) (by rw [HLN.out]; omega) hbs ?_; intro v4 w4 ho4 hg4 ha4; have HO4 := Lib.hid ho4; have HG4 := Lib.hid hg4; clear ho4 hg4 ha4)
      obtain ⟨A4, c4, rfl, -, -, -⟩ := HO4.out.form
      refine ⟨⟨k + 1, by omega, ?_, HB.out.grown HG4.out hbs (fun x e => ow_base HO.out e)⟩, ?_⟩
      · have := HO4.out
        have e1 : r ++ [128] ++ List.replicate k 0 ++ [0] = r ++ [128] ++ List.replicate (k + 1) 0 := by rw [List.append_assoc, ← List.replicate_succ']
        rw [e1] at this ⊢
        exact this
      · show 500 - (r ++ [128] ++ List.replicate k 0 ++ [0]).length < 500 - (r.length + 1 + k)
        rw [List.length_append, HLN.out]
        simp
        omega
end Go.Proofs.YtlhbijpmhokmnaaGreat
