/-
  THE WALKS OF ref02's Padded, Word; ref03's k. Conditions: the bytes read.
  LISTS OF 32-BIT NUMBERS IN MEMORY, more (names in W32): an append at a step of a region that draws its order. Conditions: each law's own premises.
-/
import Derived.Test.YtlhbijpmhokmnaaGreatQ26
import Derived.Test.YtlhbijpmhokmnaaGreatQ37
import Derived.Great.BuildSlice
namespace Go.Proofs.YtlhbijpmhokmnaaGreat
open Go.RowKit
set_option linter.unusedSimpArgs false
set_option linter.unusedVariables false

def wv (x0 x1 x2 x3 : Nat) : Nat → Nat
  | 0 => 0
  | 1 => x0
  | 2 => x0 * 256 + x1
  | 3 => x0 * 65536 + x1 * 256 + x2
  | _ => x0 * 16777216 + x1 * 65536 + x2 * 256 + x3
set_option maxRecDepth 100000 in
set_option maxHeartbeats 2000000 in
theorem word_any (A : Option Addr) (c at_ : Nat) (p : List Nat) (w : World) (hr : Rd w A p) (ha : at_ + 4 ≤ p.length) (hl : p.length ≤ 140737488355328) :
    Calls Tryz.prog 91 #[.slice A p.length c, .int .i64 at_] w fun e w' => e = .returned (.int .u32 (be4 p at_)) ∧ w = w' := by
  obtain ⟨g, o, rfl, hg, hc⟩ := hr.2 (by intro e; rw [e] at ha; simp at ha)
  have b0 := nth_lt hr.1 at_
  have b1 := nth_lt hr.1 (at_ + 1)
  have b2 := nth_lt hr.1 (at_ + 2)
  have b3 := nth_lt hr.1 (at_ + 3)
  have c0 := hc at_ (by omega)
  have c1 := hc (at_ + 1) (by omega)
  have c2 := hc (at_ + 2) (by omega)
  have c3 := hc (at_ + 3) (by omega)
  have HB : Hid (be4 p at_ = nth p at_ * 16777216 + nth p (at_ + 1) * 65536 + nth p (at_ + 2) * 256 + nth p (at_ + 3)) := rfl
  generalize nth p at_ = x0 at *
  generalize nth p (at_ + 1) = x1 at *
  generalize nth p (at_ + 2) = x2 at *
  generalize nth p (at_ + 3) = x3 at *
  have C0 := Lib.hid c0
  have C1 := Lib.hid c1
  have C2 := Lib.hid c2
  have C3 := Lib.hid c3
  clear hc hr c0 c1 c2 c3
  go_enter Tryz.func91, Tryz.ntmps91
  go_wp2_with fail
  go_loop [5, 6] (fun n i => ∃ k : Nat, k ≤ 4 ∧ i = .int .i64 k ∧ n = .int .u32 (wv x0 x1 x2 x3 k : Nat)) (fun _ i => 4 - (intOf i).toNat)
  case atStart => exact ⟨0, by omega, rfl, rfl⟩
  case round =>
    obtain ⟨k, hk, rfl, rfl⟩ := hrel
    have hcase : k = 0 ∨ k = 1 ∨ k = 2 ∨ k = 3 ∨ k = 4 := by omega
    rcases hcase with rfl | rfl | rfl | rfl | rfl
    · have c0 := C0.out
      have d1 : (at_ : Int) < p.length := by omega
      have e1 : IntKind.i64.wrap ((at_ : Int) + 0) = at_ + 0 := by simp [IntKind.wrap, IntKind.signed, IntKind.bits]; omega
      have e2 : ((at_ : Int) + 0).toNat = at_ + 0 := by omega
      have e3 : 0 ≤ (at_ : Int) + 0 := by omega
      go_wp2
      go_round
      case rel => exact ⟨0 + 1, by omega, by go_num, by first | rfl | (refine congrArg (Value.int IntKind.u32) ?_; simp only [wv]; omega)⟩
      case measure => simp [intOf]
    · have c1 := C1.out
      have d1 : (at_ : Int) + 1 < p.length := by omega
      have e1 : IntKind.i64.wrap ((at_ : Int) + 1) = at_ + 1 := by simp [IntKind.wrap, IntKind.signed, IntKind.bits]; omega
      have e2 : ((at_ : Int) + 1).toNat = at_ + 1 := by omega
      have e3 : 0 ≤ (at_ : Int) + 1 := by omega
      go_wp2
      go_round
      case rel => exact ⟨1 + 1, by omega, by go_num, by first | rfl | (refine congrArg (Value.int IntKind.u32) ?_; simp only [wv]; omega)⟩
      case measure => simp [intOf]
    · have c2 := C2.out
      have d1 : (at_ : Int) + 2 < p.length := by omega
      have e1 : IntKind.i64.wrap ((at_ : Int) + 2) = at_ + 2 := by simp [IntKind.wrap, IntKind.signed, IntKind.bits]; omega
      have e2 : ((at_ : Int) + 2).toNat = at_ + 2 := by omega
      have e3 : 0 ≤ (at_ : Int) + 2 := by omega
      go_wp2
      go_round
      case rel => exact ⟨2 + 1, by omega, by go_num, by first | rfl | (refine congrArg (Value.int IntKind.u32) ?_; simp only [wv]; omega)⟩
      case measure => simp [intOf]
    · have c3 := C3.out
      have d1 : (at_ : Int) + 3 < p.length := by omega
      have e1 : IntKind.i64.wrap ((at_ : Int) + 3) = at_ + 3 := by simp [IntKind.wrap, IntKind.signed, IntKind.bits]; omega
      have e2 : ((at_ : Int) + 3).toNat = at_ + 3 := by omega
      have e3 : 0 ≤ (at_ : Int) + 3 := by omega
      go_wp2
      go_round
      case rel => exact ⟨3 + 1, by omega, by go_num, by first | rfl | (refine congrArg (Value.int IntKind.u32) ?_; simp only [wv]; omega)⟩
      case measure => simp [intOf]
    · go_wp2
      go_ret
      exact ⟨by rw [HB.out]; rfl, rfl⟩
set_option maxRecDepth 100000 in
set_option maxHeartbeats 2000000 in
theorem padded_any (A : Option Addr) (c : Nat) (r : List Nat) (W : World) (hr : Rd W A r) (hl : r.length ≤ 35184372088832) :
    Calls Tryz.prog 90 #[.slice A r.length c] W fun e w' => ∃ v, e = .returned v ∧ Ow w' W.heap.size v (padded r) ∧ Below W.heap.size W w' := by
  have HRW := Lib.hid hr
  clear hr
  go_enter Tryz.func90, Tryz.ntmps90
  go_upto_region 4 with (first
    | (at_builtin; refine append_bytes (.tmp 6) (.tmp 7) rfl rfl rfl (Ow.nil W W.heap.size) A r.length c r rfl rfl HRW.out (by simp; omega) (Nat.le_refl _) ?_; intro v1 w1 ho1 hg1 ha1; have hg1 : W.grownBy w1 none := hg1; rw [List.nil_append] at ho1; have HO1 := Lib.hid ho1; have HG1 := Lib.hid hg1; have hs1 := hg1.size; clear ho1 hg1 ha1)
    | (at_builtin; refine append_new (.tmp 9) (.tmp 10) rfl rfl _ _ _ 128 rfl rfl HO1.out rfl (by omega) (by simp; omega) hs1 ?_; intro v2 w2 ho2 hg2 ha2; have HO2 := Lib.hid ho2; have HG2 := Lib.hid hg2; clear ho2 hg2 ha2))
  have hb2 : Below W.heap.size W w2 := by
    have h1 : Below W.heap.size W w1 := below_none' HG1.out
    exact h1.grown HG2.out hs1 (fun k e => ow_base HO1.out e)
  have HB2 := Lib.hid hb2
  clear hb2 HG1 HG2 HO1
  go_loopw [3] (fun v wr => ∃ k : Nat, k ≤ padZ r.length ∧ Ow wr W.heap.size v (r ++ [128] ++ List.replicate k 0) ∧ Below W.heap.size W wr) (fun v _ => match v with
    | .slice _ k _ => r.length + 500 - k
    | _ => 0)
  case atStart => exact ⟨0, by omega, by simpa using HO2.out, HB2.out⟩
  case round =>
    obtain ⟨k, hk, ho, hb⟩ := hrel
    have hpz : padZ r.length < 64 := by unfold padZ; omega
    have hlen : (r ++ [128] ++ List.replicate k 0).length = r.length + 1 + k := by simp; omega
    obtain ⟨A3, c3, rfl, -, -, -⟩ := ho.form
    rw [hlen] at ho
    rw [hlen]
    have HLN := Lib.hid hlen
    clear hlen
    have HO := Lib.hid ho
    have HB := Lib.hid hb
    clear ho hb HO2 HB2
    have hmod := padZ_mod r.length k hk
    have hbs := HB.out.size
    by_cases e0 : k = padZ r.length
    · have m1 : (((r.length : Int) + 1 + k) % 64 != 56) = false := by
        rw [bne_eq_false_iff_eq]
        have := hmod.2 e0
        omega
      have E0 := Lib.hid e0
      have ku : IntKind.u64.wrap (r.length : Int) = r.length := by rw [IntKind.wrap_u64]; omega
      have ku2 : IntKind.u64.wrap ((r.length : Int) * 8) = r.length * 8 := by rw [IntKind.wrap_u64]; omega
      clear e0 hmod
      go_wp2_with fail
      obtain ⟨Z, hZ⟩ : ∃ Z, Z = r ++ [128] ++ List.replicate (padZ r.length) 0 := ⟨_, rfl⟩
      have hzl : Z.length = r.length + 1 + padZ r.length := by rw [hZ, ← E0.out, HLN.out]
      have hoZ : Ow wr W.heap.size (.slice A3 (r.length + 1 + k) c3) (Z ++ (be8 (8 * r.length)).take 0) := by
        have := HO.out
        rw [E0.out] at this ⊢
        rw [← hZ] at this
        simpa using this
      have hPZ : padded r = Z ++ be8 (8 * r.length) := by rw [hZ]; rfl
      have HPZ := Lib.hid hPZ
      have HZL := Lib.hid hzl
      have HOZ := Lib.hid hoZ
      have HB1 := HB
      clear hZ hzl hoZ HO HB m1 hbs hPZ
      go_loopw [3, 5] (fun v i wq => ∃ i' : Nat, i' ≤ 8 ∧ i = .int .i64 (7 - (i' : Int)) ∧ Ow wq W.heap.size v (Z ++ (be8 (8 * r.length)).take i') ∧ Below W.heap.size W wq) (fun _ i _ => (intOf i + 1).toNat)
      case atStart => exact ⟨0, by omega, rfl, HOZ.out, HB1.out⟩
      case round =>
        obtain ⟨i, hi, rfl, ho, hb⟩ := hrel
        have hlen2 : (Z ++ (be8 (8 * r.length)).take i).length = Z.length + i := by simp [be8_length]; omega
        obtain ⟨A5, c5, rfl, -, -, -⟩ := ho.form
        rw [hlen2] at ho
        rw [hlen2]
        have hbs := hb.size
        have HO := Lib.hid ho
        have HB := Lib.hid hb
        have HL2 := Lib.hid hlen2
        clear ho hb hlen2
        have hzl2 : Z.length ≤ 35184372088832 + 200 := by rw [HZL.out]; omega
        by_cases e8 : i = 8
        · subst e8
          go_wp2
          go_ret
          refine ⟨_, rfl, ?_, HB.out⟩
          have := HO.out
          rw [List.take_of_length_le (by rw [be8_length]; omega), ← HPZ.out] at this
          exact this
        · have hcase : i = 0 ∨ i = 1 ∨ i = 2 ∨ i = 3 ∨ i = 4 ∨ i = 5 ∨ i = 6 ∨ i = 7 := by omega
          obtain ⟨b, hbn⟩ : ∃ b, b = nth (be8 (8 * r.length)) i := ⟨_, rfl⟩
          have hbv : b = 8 * r.length / 256 ^ (7 - i) % 256 := by rw [hbn, be8_nth _ (by omega)]
          have hb8 : b < 256 := by omega
          obtain ⟨j, hj⟩ : ∃ j, j = i + 1 := ⟨_, rfl⟩
          have hbt : (be8 (8 * r.length)).take i ++ [b] = (be8 (8 * r.length)).take j := by rw [hbn, hj]; exact be8_take _ (by omega)
          have HBT := Lib.hid hbt
          have HBV := Lib.hid hbv
          have HJ := Lib.hid hj
          clear hbn hbv hbt hj
          rcases hcase with rfl | rfl | rfl | rfl | rfl | rfl | rfl | rfl
          all_goals
            go_wp2_with (at_builtin; refine append_new (.tmp 27) (.tmp 34) rfl rfl _ _ _ b rfl rfl HO.out (by have h := HBV.out; simp only [Nat.reduceSub, Nat.reducePow] at h; omega) hb8 (by rw [HL2.out]; omega) hbs ?_; intro v6 w6 ho6 hg6 ha6; have HO6 := Lib.hid ho6; have HG6 := Lib.hid hg6; clear ho6 hg6 ha6)
            go_roundw
            case rel =>
              refine ⟨j, by rw [HJ.out]; omega, by rw [HJ.out]; rfl, ?_, HB.out.grown HG6.out hbs (fun x e => ow_base HO.out e)⟩
              have := HO6.out
              rw [List.append_assoc, HBT.out] at this
              exact this
            case measure => simp [intOf]
    · have m1 : (((r.length : Int) + 1 + k) % 64 != 56) = true := by
        rw [bne_iff_ne]
        intro e
        exact e0 (hmod.1 (by omega))
      clear hmod
      go_wp2_with (at_builtin; refine append_new (.tmp 16) (.tmp 17) rfl rfl _ _ _ 0 rfl rfl HO.out rfl (by omega) (by rw [HLN.out]; omega) hbs ?_; intro v4 w4 ho4 hg4 ha4; have HO4 := Lib.hid ho4; have HG4 := Lib.hid hg4; clear ho4 hg4 ha4)
      obtain ⟨A4, c4, rfl, -, -, -⟩ := HO4.out.form
      refine ⟨⟨k + 1, by omega, ?_, HB.out.grown HG4.out hbs (fun x e => ow_base HO.out e)⟩, ?_⟩
      · have := HO4.out
        have e1 : r ++ [128] ++ List.replicate k 0 ++ [0] = r ++ [128] ++ List.replicate (k + 1) 0 := by rw [List.append_assoc, ← List.replicate_succ']
        rw [e1] at this ⊢
        exact this
      · show r.length + 500 - (r ++ [128] ++ List.replicate k 0 ++ [0]).length < r.length + 500 - (r.length + 1 + k)
        rw [List.length_append, HLN.out]
        simp
        omega
theorem words_rd (w : World) (e : TypeId) (l : List Nat) (h : ∀ x ∈ l, x < 4294967296) (fr : Nat × Nat) : W32.Rd (w.alloc (.cells (l.map fun x => Value.int .u32 (x : Nat)).toArray e fr)) (some ⟨w.heap.size, 0, none⟩) l := by
  refine ⟨h, fun hl => ⟨w.heap.size, 0, rfl, by simp, fun i hi => ?_⟩⟩
  rw [Nat.zero_add, cell_of_row _ _ _ _ _ _ (heap_alloc_new w _), nth_get hi]
  simp [hi]
end Go.Proofs.YtlhbijpmhokmnaaGreat
namespace Go.Proofs.YtlhbijpmhokmnaaGreat.W32
open Go.RowKit
set_option linter.unusedSimpArgs false
set_option linter.unusedVariables false

section
variable {W : World} {ops : Array Oper} {o : Oper} {a : Act} {K : Act → World → Prop} {Q : Exit → Act → World → Prop} {E : Prop} {base : Nat} {v : Value} {l : List Nat}
theorem step_append_bytes (s x : Operand) (hgd : o.guard = none) (ho : o.op = .call { callee := .builtin .append, args := #[s, x], argTypes := #[120, 120] })
    (hs : a.eval s = v) (hown : Ow W base v l) (A : Option Addr) (n c : Nat) (m : List Nat) (hx : a.eval x = .slice A n c) (hnm : n = m.length) (hr : Rd W A m)
    (hn : l.length + m.length ≤ 35184372088832) (hbase : base ≤ W.heap.size)
    (h : ∀ v' w', Ow w' base v' (l ++ m) → W.grownBy w' v.ownBlock → (v'.ownBlock = v.ownBlock ∨ v'.ownBlock = some W.heap.size) → K (a.put o.dst v') w') :
    if Region.wanted o (yielded ops a.tmps) = true then Oper.wp Tryz.prog o a W K Q else E := by
  have hw : Region.wanted o (yielded ops a.tmps) = true := by simp [Region.wanted, hgd]
  rw [if_pos hw]
  exact wp_append_bytes s x ho hs hown A n c m hx hnm hr hn hbase h
/-- 'out = append(out, b)' inside a region that draws, behind the block that was made for b. -/
theorem step_append_new (s x : Operand) (hgd : o.guard = none) (ho : o.op = .call { callee := .builtin .append, args := #[s, x], argTypes := #[120, 120] }) (t c : Nat) (z : Int) (b : Nat)
    (hs : a.eval s = v) (hx : a.eval x = .slice (some ⟨W.heap.size, 0, none⟩) 1 c) (hown : Ow W base v l) (hz : z = b) (hb : b < 4294967296)
    (hn : l.length + 1 ≤ 35184372088832) (hbase : base ≤ W.heap.size)
    (h : ∀ v' w', Ow w' base v' (l ++ [b]) → W.grownBy w' v.ownBlock → (v'.ownBlock = v.ownBlock ∨ W.heap.size < w'.heap.size ∧ v'.ownBlock = some (W.heap.size + 1)) → K (a.put o.dst v') w') :
    if Region.wanted o (yielded ops a.tmps) = true then Oper.wp Tryz.prog o a (W.alloc (.cells #[.int .u32 z] t)).drew K Q else E := by
  subst hz
  have hr : Rd (W.alloc (.cells #[.int .u32 (b : Nat)] t)).drew (some ⟨W.heap.size, 0, none⟩) [b] := ⟨by simpa using hb, fun _ => ⟨W.heap.size, 0, rfl, by simp, fun i hi => by
    have : i = 0 := by simpa using hi
    subst this
    exact new_cell W (.int .u32 (b : Nat)) t⟩⟩
  have hown' : Ow (W.alloc (.cells #[.int .u32 (b : Nat)] t)).drew base v l := (hown.alloc _).drew
  refine step_append_bytes s x hgd ho hs hown' _ 1 c [b] hx rfl hr (by simpa using hn) (by simp; omega) fun v' w' h1 h2 h3 => ?_
  have h2' : W.grownBy w' v.ownBlock := nil_grown (World.grownBy_alloc W (.cells #[.int .u32 (b : Nat)] t) v.ownBlock) ⟨h2.os, h2.tape, h2.output, h2.size, h2.block⟩
  refine h v' w' h1 h2' ?_
  rcases h3 with h3 | h3
  · exact .inl h3
  · refine .inr ⟨?_, by simpa using h3⟩
    have := h2.size
    simp at this
    omega
end
end Go.Proofs.YtlhbijpmhokmnaaGreat.W32
