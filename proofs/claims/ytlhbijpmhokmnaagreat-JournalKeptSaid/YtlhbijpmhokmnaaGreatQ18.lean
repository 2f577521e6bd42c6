/-
  THE WALKS OF octets.Add32, octets.U32, and of slices.Clip, slices.Grow, bytes.Equal, bytes.HasPrefix, bytes.Clone, at bytes. Conditions: the slices read as lists.
-/
import Derived.Test.YtlhbijpmhokmnaaGreatQ11
import Derived.Test.YtlhbijpmhokmnaaGreatQ17
import Derived.Test.YtlhbijpmhokmnaaGreatQ08
import Derived.Deep.QuietTactic
import Derived.Lib.LazyBuf
import Derived.BigQuiet
namespace Go.Proofs.YtlhbijpmhokmnaaGreat
open Go.RowKit
set_option linter.unusedSimpArgs false
set_option linter.unusedVariables false

theorem run_append_zclip (w : World) (B : Option Addr) (l : List Nat) (hB : Rd w B l) (m : Nat) (hm0 : m ≠ 0) (hm : l.length + m ≤ 1000000) (ty : TypeId) :
    ∃ v' w', (Builtin.append_ #[22, 3] ty #[.slice B l.length l.length, .int .i64 (m : Nat)]).run Tryz.prog w = .ok v' w' ∧ Ow w' w.heap.size v' (l ++ List.replicate m 0) ∧ w.grownBy w' none := by
  obtain ⟨i, hi, hz, hs, hby⟩ := info_parts info_u8
  have hw : IntKind.i64.wrap (m : Int) = m := by rw [IntKind.wrap_i64]; omega
  have hneg : ¬ ((m : Int) < 0) := by omega
  have hb0 : ∀ x ∈ l ++ List.replicate m 0, x < 256 := fun x hx => by
    rcases List.mem_append.1 hx with h | h
    · exact hB.1 x h
    · rw [(List.mem_replicate.1 h).2]; omega
  have ht := Tryz.underlying22
  have htn := Tryz.underlying3
  have hL : (l ++ List.replicate m 0).length = l.length + m := by simp
  have hzc : (Value.int .u8 0).cells = #[Value.int .u8 0] := rfl
  have h63' : ¬ (9223372036854775807 < ((l.length : Int) + (m : Int))) := by omega
  have hnew : Ow (w.drew.alloc (.cells ((bs l).toArray ++ Builtin.zeroCells #[Value.int .u8 0] m ++ Builtin.zeroCells #[Value.int .u8 0] (grownCap w (l.length + m) l.length 5 - (l.length + m))) 5)) w.heap.size
      (.slice (some ⟨w.heap.size, 0, none⟩) (l.length + m) (grownCap w (l.length + m) l.length 5)) (l ++ List.replicate m 0) := by
    have hge := grownCap_ge w (l.length + m) l.length 5
    have hcm := grownCap_le_maxLen w (l.length + m) l.length 5 (by unfold maxLen; omega)
    refine ⟨hb0, ?_⟩
    rw [hL, bs_append, bs_zeros]
    refine ⟨by simp [bs_length], .inr ⟨w.heap.size, _, _, rfl, Nat.le_refl _, heap_alloc_new w.drew _, hge, hcm, ?_, ?_⟩⟩
    · simp only [Array.size_append, List.size_toArray, size_zeroCells, bs_length]
      simp
      omega
    · simp only [Array.toList_append, List.append_assoc, zeros_list]
      rw [← List.append_assoc]
      apply List.take_left'
      simp [bs_length]
  have hgrow : ∀ (C : Array Value) (r : Option Nat), w.grownBy (w.drew.alloc (.cells C 5)) r := fun C r => ⟨rfl, rfl, rfl, by simp, fun k hk _ => heap_alloc_old w.drew _ hk⟩
  have hn' : ¬ (l.length + m ≤ l.length) := by omega
  have h48' : ¬ (281474976710656 < Builtin.nextslicecap (l.length + m) l.length * 1) := by have := growslice_fits (need := l.length + m) (old := l.length) (bytes := 1) (by omega) (by omega); omega
  have h48j : ¬ (281474976710656 < (m : Int)) := by omega
  have h48k : ¬ (281474976710656 < Builtin.nextslicecap (l.length + m) l.length) := by omega
  have hfo : (Builtin.firstCells 1 l.length (.slice B l.length l.length)).run Tryz.prog w.drew = .ok (bs l).toArray w.drew := by
    rcases B with _ | bd
    · have hl : l = [] := by
        cases l with
        | nil => rfl
        | cons x t => obtain ⟨g, o, e, _⟩ := hB.2 (by simp); cases e
      subst hl
      simp [Builtin.firstCells, bs]
    · exact run_firstCells_some (P := Tryz.prog) w.drew 1 l.length bd l.length l.length (bs l) (by simp [bs_length]) (fun j u hu => by
        have hj : j < l.length := by have := (List.getElem?_eq_some_iff.1 hu).1; simpa [bs_length] using this
        obtain ⟨g', o', e, _, hc'⟩ := hB.2 (by rintro rfl; simp at hj)
        obtain rfl := Option.some.inj e
        show w.cell? _ = _
        rw [add_none, hc' j hj, nth_get hj]
        rw [bs_get hj] at hu
        exact hu)
  refine ⟨_, _, ?_, hnew, hgrow _ _⟩
  simp [Builtin.append_, run_underlying ht, run_underlying htn, sizeOf, typeInfo, zeroValue, hi, hz, hs, hby, asInt, asIntOf, hw, hneg, h48j, h48k, hm0, hn', h63', Question.forced, hzc, hfo, newRow, grownCap]
/-- The first part of the call's own. -/
theorem Ow.front {w : World} {base n c : Nat} {A : Option Addr} {l r : List Nat} (h : Ow w base (.slice A n c) (l ++ r)) : Ow w base (.slice A l.length c) l := by
  obtain ⟨hb, hlen, h0 | ⟨g, cap, cur, e, hg, hh, hn, hm, hs, ht⟩⟩ := h
  · obtain ⟨e, h0⟩ := h0
    have : l = [] := by
      have : (l ++ r).length = 0 := h0
      simp at this
      exact this.1
    subst this
    injection e with e1 e2 e3
    subst e1; subst e3
    exact Ow.nil _ _
  · injection e with e1 e2 e3
    subst e1; subst e3
    refine ⟨fun x hx => hb x (List.mem_append_left _ hx), by simp [bs_length], .inr ⟨g, _, cur, rfl, hg, hh, ?_, hm, hs, ?_⟩⟩
    · simp at hn; omega
    · have h2 := congrArg (List.take l.length) ht
      rw [List.take_take] at h2
      simp only [Nat.mul_one, List.length_append] at h2 ⊢
      rw [show min l.length (l.length + r.length) = l.length by omega] at h2
      rw [h2, bs_append, List.take_left' (by simp [bs_length])]
theorem oclip_any (A : Option Addr) (n c : Nat) (w : World) (hc : n ≤ c) : Calls Tryz.prog 80 #[.slice A n c] w fun e w' => e = .returned (.slice A n n) ∧ w = w' := by
  have h1 : (n : Int) ≤ c := by omega
  go_enter Tryz.func80, Tryz.ntmps80
  go_wp2
  go_ret
  exact ⟨rfl, rfl⟩
set_option maxRecDepth 100000 in
set_option maxHeartbeats 1000000 in
theorem grow_any (A : Option Addr) (n : Nat) (l : List Nat) (w : World) (hn : n = l.length) (hl : l.length ≤ 100000) (hr : Rd w A l) :
    Calls Tryz.prog 101 #[.slice A n n, .int .i64 5] w fun e w' => ∃ B c, e = .returned (.slice B n c) ∧ n ≤ c ∧ Ow w' w.heap.size (.slice B n c) l ∧ Below w.heap.size w w' := by
  obtain ⟨v7, w7, hr7, ho7, hg7⟩ := run_append_zclip w A l hr 5 (by omega) (by omega) 22
  rw [← hn] at hr7
  obtain ⟨A7, c7, rfl, hc7, -, -⟩ := ho7.form
  have hl7 : (l ++ List.replicate 5 0).length = n + 5 := by simp [hn]
  rw [hl7] at hr7 ho7 hc7
  have h1 : (n : Int) ≤ c7 := by omega
  have HO := Lib.hid ho7.front
  have HB := Lib.hid (show Below w.heap.size w w7 from ⟨hg7.os, hg7.tape, hg7.output, hg7.size, fun k hk => hg7.block k hk (by simp)⟩)
  have HN := Lib.hid hn
  clear ho7 hg7 hr hl7 hn
  go_enter Tryz.func101, Tryz.ntmps101
  go_wp2_with (at_builtin; refine Lib.wpList_append_run w rfl (.tmp 20) (.tmp 21) 22 3 rfl (.slice A n n) (.int .i64 (5 : Nat)) rfl (by first | rfl | (simp [Act.eval]; omega)) _ w7 hr7 ?_)
  go_ret
  rw [← HN.out] at HO
  exact ⟨A7, c7, rfl, by omega, HO.out, HB.out⟩
theorem be4w_take (v : Nat) {i : Nat} (h : i < 4) : (be4w v).take i ++ [nth (be4w v) i] = (be4w v).take (i + 1) := by
  have hl : i < (be4w v).length := h
  rw [List.take_add_one, List.getElem?_eq_getElem hl, nth_get hl]
  rfl
set_option maxRecDepth 100000 in
set_option maxHeartbeats 4000000 in
theorem put_any (A : Option Addr) (n c : Nat) (l : List Nat) (v : Nat) (w : World) (hn : n = l.length) (hl : l.length ≤ 1000) (hc : n ≤ c) (hr : Rd w A l) (hv : v < 4294967296) :
    Calls Tryz.prog 88 #[.slice A n c, .int .u32 v, .int .i64 4] w fun e w' => ∃ B c', e = .returned (.slice B (n + 4) c') ∧ n + 4 ≤ c' ∧ Ow w' w.heap.size (.slice B (n + 4) c') (l ++ be4w v) ∧ Below w.heap.size w w' := by
  have HR := Lib.hid hr
  have HN := Lib.hid hn
  have hnl : n ≤ 1000 := by omega
  have hln : l.length ≤ 1000 := hl
  clear hr hn
  go_enter Tryz.func88, Tryz.ntmps88
  go_wp2_with fail
  refine (oclip_any A n c w hc).mono ?_
  rintro e w' ⟨rfl, rfl⟩
  go_wp2_with fail
  refine (grow_any A n l w HN.out (by omega) HR.out).mono ?_
  rintro e w1 ⟨B, c1, rfl, hc1, ho1, hb1⟩
  have HO := Lib.hid ho1
  have HB := Lib.hid hb1
  have h1 : (n : Int) ≤ c1 := by omega
  clear ho1 hb1
  go_wp2_with fail
  go_loopw [7, 2] (fun out i wr => ∃ (k : Nat) (z : Int), k ≤ 4 ∧ z = 3 - k ∧ i = .int .i64 z ∧ Ow wr w.heap.size out (l ++ (be4w v).take k) ∧ Below w.heap.size w wr) (fun _ i _ => (intOf i + 1).toNat)
  case atStart => exact ⟨0, 3, by omega, rfl, rfl, by simpa using HO.out, HB.out⟩
  case round =>
    clear HO HB
    obtain ⟨k, z, hk, hz, rfl, ho, hb⟩ := hrel
    have HO := Lib.hid ho
    have HB := Lib.hid hb
    clear ho hb
    have hcase : k = 0 ∨ k = 1 ∨ k = 2 ∨ k = 3 ∨ k = 4 := by omega
    rcases hcase with rfl | rfl | rfl | rfl | rfl
    · skip
      obtain rfl : z = 3 := by omega
      have hbv : nth (be4w v) 0 = v / 16777216 % 256 := rfl
      have hb8 : nth (be4w v) 0 < 256 := by rw [hbv]; omega
      have hbt := be4w_take v (i := 0) (by omega)
      generalize nth (be4w v) 0 = b at *
      have HBV := Lib.hid hbv
      have HBT := Lib.hid hbt
      clear hbv hbt hz hk
      have hbs := HB.out.size
      go_wp2_with (at_builtin; refine append_new (.tmp 22) (.tmp 28) rfl rfl _ _ _ b rfl rfl HO.out (by rw [HBV.out]; first | omega | (simp only [IntKind.wrap_u8']; omega)) hb8 (by rw [List.length_append, List.length_take]; have := be4w_length v; omega) hbs ?_; intro v6 w6 ho6 hg6 ha6; have HO6 := Lib.hid ho6; have HG6 := Lib.hid hg6; clear ho6 hg6 ha6)
      go_roundw
      case rel =>
        refine ⟨0 + 1, 2, by omega, by omega, by first | rfl | go_num, ?_, HB.out.grown HG6.out hbs (fun x e => (HO.out.lt x e).1)⟩
        have := HO6.out
        rw [List.append_assoc, HBT.out] at this
        exact this
      case measure => simp [intOf]
    · skip
      obtain rfl : z = 2 := by omega
      have hbv : nth (be4w v) 1 = v / 65536 % 256 := rfl
      have hb8 : nth (be4w v) 1 < 256 := by rw [hbv]; omega
      have hbt := be4w_take v (i := 1) (by omega)
      generalize nth (be4w v) 1 = b at *
      have HBV := Lib.hid hbv
      have HBT := Lib.hid hbt
      clear hbv hbt hz hk
      have hbs := HB.out.size
      go_wp2_with (at_builtin; refine append_new (.tmp 22) (.tmp 28) rfl rfl _ _ _ b rfl rfl HO.out (by rw [HBV.out]; first | omega | (simp only [IntKind.wrap_u8']; omega)) hb8 (by rw [List.length_append, List.length_take]; have := be4w_length v; omega) hbs ?_; intro v6 w6 ho6 hg6 ha6; have HO6 := Lib.hid ho6; have HG6 := Lib.hid hg6; clear ho6 hg6 ha6)
      go_roundw
      case rel =>
        refine ⟨1 + 1, 1, by omega, by omega, by first | rfl | go_num, ?_, HB.out.grown HG6.out hbs (fun x e => (HO.out.lt x e).1)⟩
        have := HO6.out
        rw [List.append_assoc, HBT.out] at this
        exact this
      case measure => simp [intOf]
    · skip
      obtain rfl : z = 1 := by omega
      have hbv : nth (be4w v) 2 = v / 256 % 256 := rfl
      have hb8 : nth (be4w v) 2 < 256 := by rw [hbv]; omega
      have hbt := be4w_take v (i := 2) (by omega)
      generalize nth (be4w v) 2 = b at *
      have HBV := Lib.hid hbv
      have HBT := Lib.hid hbt
      clear hbv hbt hz hk
      have hbs := HB.out.size
      go_wp2_with (at_builtin; refine append_new (.tmp 22) (.tmp 28) rfl rfl _ _ _ b rfl rfl HO.out (by rw [HBV.out]; first | omega | (simp only [IntKind.wrap_u8']; omega)) hb8 (by rw [List.length_append, List.length_take]; have := be4w_length v; omega) hbs ?_; intro v6 w6 ho6 hg6 ha6; have HO6 := Lib.hid ho6; have HG6 := Lib.hid hg6; clear ho6 hg6 ha6)
      go_roundw
      case rel =>
        refine ⟨2 + 1, 0, by omega, by omega, by first | rfl | go_num, ?_, HB.out.grown HG6.out hbs (fun x e => (HO.out.lt x e).1)⟩
        have := HO6.out
        rw [List.append_assoc, HBT.out] at this
        exact this
      case measure => simp [intOf]
    · skip
      obtain rfl : z = 0 := by omega
      have hbv : nth (be4w v) 3 = v % 256 := rfl
      have hb8 : nth (be4w v) 3 < 256 := by rw [hbv]; omega
      have hbt := be4w_take v (i := 3) (by omega)
      generalize nth (be4w v) 3 = b at *
      have HBV := Lib.hid hbv
      have HBT := Lib.hid hbt
      clear hbv hbt hz hk
      have hbs := HB.out.size
      go_wp2_with (at_builtin; refine append_new (.tmp 22) (.tmp 28) rfl rfl _ _ _ b rfl rfl HO.out (by rw [HBV.out]; first | omega | (simp only [IntKind.wrap_u8']; omega)) hb8 (by rw [List.length_append, List.length_take]; have := be4w_length v; omega) hbs ?_; intro v6 w6 ho6 hg6 ha6; have HO6 := Lib.hid ho6; have HG6 := Lib.hid hg6; clear ho6 hg6 ha6)
      go_roundw
      case rel =>
        refine ⟨3 + 1, -1, by omega, by omega, by first | rfl | go_num, ?_, HB.out.grown HG6.out hbs (fun x e => (HO.out.lt x e).1)⟩
        have := HO6.out
        rw [List.append_assoc, HBT.out] at this
        exact this
      case measure => simp [intOf]
    · obtain rfl : z = -1 := by omega
      have ho := HO.out
      rw [List.take_of_length_le (by rw [be4w_length]; omega)] at ho
      obtain ⟨B2, c2, rfl, hc2, -, -⟩ := ho.form
      have hl4 : (l ++ be4w v).length = n + 4 := by rw [List.length_append, be4w_length, HN.out]
      rw [hl4] at ho hc2 ⊢
      have HO2 := Lib.hid ho
      clear ho hl4 hz hk HO
      go_wp2_with fail
      go_ret
      exact ⟨B2, c2, rfl, hc2, HO2.out, HB.out⟩
theorem add32_any (A : Option Addr) (n c : Nat) (l : List Nat) (v : Nat) (w : World) (hn : n = l.length) (hl : l.length ≤ 1000) (hc : n ≤ c) (hr : Rd w A l) (hv : v < 4294967296) :
    Calls Tryz.prog 72 #[.slice A n c, .int .u32 v] w fun e w' => ∃ B c', e = .returned (.slice B (n + 4) c') ∧ n + 4 ≤ c' ∧ Ow w' w.heap.size (.slice B (n + 4) c') (l ++ be4w v) ∧ Below w.heap.size w w' := by
  have HR := Lib.hid hr
  have HN := Lib.hid hn
  clear hr hn
  go_enter Tryz.func72, Tryz.ntmps72
  go_wp2_with fail
  refine (put_any A n c l v w HN.out hl hc HR.out hv).mono ?_
  rintro e w1 ⟨B, c1, rfl, hc1, ho1, hb1⟩
  have HO := Lib.hid ho1
  have HB := Lib.hid hb1
  clear ho1 hb1
  go_wp2_with fail
  go_ret
  exact ⟨B, c1, rfl, hc1, HO.out, HB.out⟩
def pt (l : List Nat) : Nat → Nat
  | 0 => 0
  | 1 => nth l 5 * 16777216
  | 2 => nth l 5 * 16777216 + nth l 6 * 65536
  | 3 => nth l 5 * 16777216 + nth l 6 * 65536 + nth l 7 * 256
  | _ => nth l 5 * 16777216 + nth l 6 * 65536 + nth l 7 * 256 + nth l 8
set_option maxRecDepth 100000 in
set_option maxHeartbeats 2000000 in
theorem told_yes (A : Option Addr) (n c : Nat) (l : List Nat) (w : World) (hn : n = l.length) (hl : 9 ≤ n) (hl2 : n ≤ 4611686018427387904) (hc : n ≤ c) (hr : Rd w A l) :
    Calls Tryz.prog 87 #[.slice A n c, .int .i64 5, .int .i64 4] w fun e w' => e = .returned (.tuple #[.int .u32 (be4 l 5 : Nat), .bool true]) ∧ w = w' := by
  obtain ⟨g, o, rfl, hg, hcell⟩ := hr.2 (by intro e; rw [e] at hn; simp at hn; omega)
  have HLT := Lib.hid hr.1
  have HC : Hid (∀ i, i < n → w.cell? ⟨g, o + i, none⟩ = some (.int .u8 (nth l i : Nat))) := by rw [hn]; exact hcell
  have h1 : ¬ (n : Int) < 5 := by omega
  have h2 : ¬ (n : Int) - 5 < 4 := by omega
  have h3 : (9 : Int) ≤ c := by omega
  have h4 : ¬ c = 5 := by omega
  have h5 : ¬ (c : Int) = 5 := by omega
  have h6 : 9 ≤ c := by omega
  clear hcell hr hn
  go_enter Tryz.func87, Tryz.ntmps87
  go_wp2
  go_loopw [6, 33] (fun v i wr => ∃ k : Nat, k ≤ 4 ∧ i = .int .i64 k ∧ v = .int .u32 (pt l k : Nat) ∧ wr = w) (fun _ i _ => 4 - (intOf i).toNat)
  case atStart => exact ⟨0, by omega, rfl, rfl, rfl⟩
  case round =>
    obtain ⟨k, hk, rfl, rfl, rfl⟩ := hrel
    have hcase : k = 0 ∨ k = 1 ∨ k = 2 ∨ k = 3 ∨ k = 4 := by omega
    clear hk
    rcases hcase with rfl | rfl | rfl | rfl | rfl
    · skip
      have x0 := HC.out (5 + 0) (by omega)
      have b0 := nth_lt HLT.out (5 + 0)
      have hp : pt l (0 + 1) = pt l 0 + nth l (5 + 0) * 16777216 := by simp [pt]
      have hpl : pt l 0 + nth l (5 + 0) * 16777216 < 4294967296 := by
        have := nth_lt HLT.out 5
        have := nth_lt HLT.out 6
        have := nth_lt HLT.out 7
        have := nth_lt HLT.out 8
        simp [pt]; omega
      generalize nth l (5 + 0) = a at *
      generalize hP : pt l 0 = P at *
      have ka : IntKind.u32.wrap (a : Int) = a := by rw [IntKind.wrap_u32]; omega
      have kb : IntKind.u32.wrap ((a : Int) * 16777216) = (a : Int) * 16777216 := by rw [IntKind.wrap_u32]; omega
      have kc : IntKind.u32.wrap ((P : Int) + (a : Int) * 16777216) = ((P + a * 16777216 : Nat) : Int) := by rw [IntKind.wrap_u32]; omega
      have HPP := Lib.hid hp
      clear hp hP
      go_wp2
      refine ⟨⟨0 + 1, by omega, by first | rfl | go_num, by rw [HPP.out]; first | rfl | (congr 1; omega) | go_num, by first | rfl | trivial⟩, ?_⟩
      simp [intOf]
    · skip
      have x0 := HC.out (5 + 1) (by omega)
      have b0 := nth_lt HLT.out (5 + 1)
      have hp : pt l (1 + 1) = pt l 1 + nth l (5 + 1) * 65536 := by simp [pt]
      have hpl : pt l 1 + nth l (5 + 1) * 65536 < 4294967296 := by
        have := nth_lt HLT.out 5
        have := nth_lt HLT.out 6
        have := nth_lt HLT.out 7
        have := nth_lt HLT.out 8
        simp [pt]; omega
      generalize nth l (5 + 1) = a at *
      generalize hP : pt l 1 = P at *
      have ka : IntKind.u32.wrap (a : Int) = a := by rw [IntKind.wrap_u32]; omega
      have kb : IntKind.u32.wrap ((a : Int) * 65536) = (a : Int) * 65536 := by rw [IntKind.wrap_u32]; omega
      have kc : IntKind.u32.wrap ((P : Int) + (a : Int) * 65536) = ((P + a * 65536 : Nat) : Int) := by rw [IntKind.wrap_u32]; omega
      have HPP := Lib.hid hp
      clear hp hP
      go_wp2
      refine ⟨⟨1 + 1, by omega, by first | rfl | go_num, by rw [HPP.out]; first | rfl | (congr 1; omega) | go_num, by first | rfl | trivial⟩, ?_⟩
      simp [intOf]
    · skip
      have x0 := HC.out (5 + 2) (by omega)
      have b0 := nth_lt HLT.out (5 + 2)
      have hp : pt l (2 + 1) = pt l 2 + nth l (5 + 2) * 256 := by simp [pt]
      have hpl : pt l 2 + nth l (5 + 2) * 256 < 4294967296 := by
        have := nth_lt HLT.out 5
        have := nth_lt HLT.out 6
        have := nth_lt HLT.out 7
        have := nth_lt HLT.out 8
        simp [pt]; omega
      generalize nth l (5 + 2) = a at *
      generalize hP : pt l 2 = P at *
      have ka : IntKind.u32.wrap (a : Int) = a := by rw [IntKind.wrap_u32]; omega
      have kb : IntKind.u32.wrap ((a : Int) * 256) = (a : Int) * 256 := by rw [IntKind.wrap_u32]; omega
      have kc : IntKind.u32.wrap ((P : Int) + (a : Int) * 256) = ((P + a * 256 : Nat) : Int) := by rw [IntKind.wrap_u32]; omega
      have HPP := Lib.hid hp
      clear hp hP
      go_wp2
      refine ⟨⟨2 + 1, by omega, by first | rfl | go_num, by rw [HPP.out]; first | rfl | (congr 1; omega) | go_num, by first | rfl | trivial⟩, ?_⟩
      simp [intOf]
    · skip
      have x0 := HC.out (5 + 3) (by omega)
      have b0 := nth_lt HLT.out (5 + 3)
      have hp : pt l (3 + 1) = pt l 3 + nth l (5 + 3) * 1 := by simp [pt]
      have hpl : pt l 3 + nth l (5 + 3) * 1 < 4294967296 := by
        have := nth_lt HLT.out 5
        have := nth_lt HLT.out 6
        have := nth_lt HLT.out 7
        have := nth_lt HLT.out 8
        simp [pt]; omega
      generalize nth l (5 + 3) = a at *
      generalize hP : pt l 3 = P at *
      have ka : IntKind.u32.wrap (a : Int) = a := by rw [IntKind.wrap_u32]; omega
      have kb : IntKind.u32.wrap ((a : Int) * 1) = (a : Int) * 1 := by rw [IntKind.wrap_u32]; omega
      have kc : IntKind.u32.wrap ((P : Int) + (a : Int) * 1) = ((P + a * 1 : Nat) : Int) := by rw [IntKind.wrap_u32]; omega
      have HPP := Lib.hid hp
      clear hp hP
      go_wp2
      refine ⟨⟨3 + 1, by omega, by first | rfl | go_num, by rw [HPP.out]; first | rfl | (congr 1; omega) | go_num, by first | rfl | trivial⟩, ?_⟩
      simp [intOf]
    · go_wp2
      go_ret2
      exact ⟨rfl, rfl⟩
/-- The number of four bytes at place 5. -/
theorem u32_yes (A : Option Addr) (n c : Nat) (l : List Nat) (w : World) (hn : n = l.length) (hl : 9 ≤ n) (hl2 : n ≤ 4611686018427387904) (hc : n ≤ c) (hr : Rd w A l) :
    Calls Tryz.prog 70 #[.slice A n c, .int .i64 5] w fun e w' => e = .returned (.tuple #[.int .u32 (be4 l 5 : Nat), .bool true]) ∧ w = w' := by
  have HR := Lib.hid hr
  have HN := Lib.hid hn
  clear hr hn
  go_enter Tryz.func70, Tryz.ntmps70
  go_wp2_with fail
  refine (told_yes A n c l w HN.out hl hl2 hc HR.out).mono ?_
  rintro e w' ⟨rfl, rfl⟩
  go_wp2_with fail
  go_ret2
  exact ⟨rfl, rfl⟩
theorem told_no (A : Option Addr) (n c : Nat) (w : World) (hl : n < 9) :
    Calls Tryz.prog 87 #[.slice A n c, .int .i64 5, .int .i64 4] w fun e w' => e = .returned (.tuple #[.int .u32 0, .bool false]) ∧ w = w' := by
  by_cases h : n < 5
  · have h1 : (n : Int) < 5 := by omega
    go_enter Tryz.func87, Tryz.ntmps87
    go_wp2
    go_ret2
    exact ⟨rfl, rfl⟩
  · have h1 : ¬ (n : Int) < 5 := by omega
    have h2 : (n : Int) - 5 < 4 := by omega
    go_enter Tryz.func87, Tryz.ntmps87
    go_wp2
    go_ret2
    exact ⟨rfl, rfl⟩
theorem u32_no (A : Option Addr) (n c : Nat) (w : World) (hl : n < 9) :
    Calls Tryz.prog 70 #[.slice A n c, .int .i64 5] w fun e w' => e = .returned (.tuple #[.int .u32 0, .bool false]) ∧ w = w' := by
  go_enter Tryz.func70, Tryz.ntmps70
  go_wp2_with fail
  refine (told_no A n c w hl).mono ?_
  rintro e w' ⟨rfl, rfl⟩
  go_wp2_with fail
  go_ret2
  exact ⟨rfl, rfl⟩
set_option maxRecDepth 100000 in
set_option maxHeartbeats 1000000 in
theorem bequal_any (A B : Option Addr) (n m c d : Nat) (a b : List Nat) (w : World) (hn : n = a.length) (hm : m = b.length) (ha : Rd w A a) (hb : Rd w B b) :
    Calls Tryz.prog 69 #[.slice A n c, .slice B m d] w fun e w' => e = .returned (.bool (sameB a b)) ∧ w = w' := by
  subst hn; subst hm
  have h1 := conv_str ha c
  have h2 := conv_str hb d
  have h3 : ((mkS a).toList == (mkS b).toList) = sameB a b := by
    rw [str_eq, strB_mkS ha.1, strB_mkS hb.1]; rfl
  clear ha hb
  go_enter Tryz.func69, Tryz.ntmps69
  go_wp2
  go_ret
  exact ⟨rfl, rfl⟩
/-- Do bytes begin so? -/
def pfx (b a : List Nat) : Bool := b.isPrefixOf a
theorem pfx_take {a b : List Nat} (h : b.length ≤ a.length) : sameB (a.take b.length) b = pfx b a := by
  unfold sameB pfx
  rw [Bool.eq_iff_iff, decide_eq_true_iff, List.isPrefixOf_iff_prefix]
  constructor
  · intro e; exact ⟨a.drop b.length, by rw [← e]; simp [List.length_take, Nat.min_eq_left h]⟩
  · rintro ⟨r, rfl⟩; rw [List.take_left' rfl]
theorem pfx_short {a b : List Nat} (h : a.length < b.length) : pfx b a = false := by
  unfold pfx
  rw [Bool.eq_false_iff]
  intro e
  have := (List.isPrefixOf_iff_prefix.1 e).length_le
  omega
set_option maxRecDepth 100000 in
set_option maxHeartbeats 1000000 in
theorem hasp_any (A B : Option Addr) (n m c d : Nat) (a b : List Nat) (w : World) (hn : n = a.length) (hm : m = b.length) (hc : n ≤ c) (ha : Rd w A a) (hb : Rd w B b) :
    Calls Tryz.prog 37 #[.slice A n c, .slice B m d] w fun e w' => e = .returned (.bool (pfx b a)) ∧ w = w' := by
  by_cases h : m ≤ n
  · have h1 : (m : Int) ≤ n := by omega
    have h2 : (m : Int) ≤ c := by omega
    have h3 : m ≤ c := by omega
    have he := pfx_take (a := a) (b := b) (by omega)
    have hl : m = (a.take m).length := by rw [List.length_take]; omega
    have ha' := rd_takeL ha m
    rw [← hm] at he
    have HE := Lib.hid he
    have HL := Lib.hid hl
    have HA := Lib.hid ha'
    have HM := Lib.hid hm
    have HB := Lib.hid hb
    clear he hl ha' hm hb ha hn hc
    go_enter Tryz.func37, Tryz.ntmps37
    go_wp2_with fail
    refine (bequal_any A B m m c d (a.take m) b w HL.out HM.out HA.out HB.out).mono ?_
    rw [HE.out]
    rintro e w' ⟨rfl, rfl⟩
    go_wp2_with fail
    go_ret
    exact ⟨rfl, rfl⟩
  · have h1 : ¬ (m : Int) ≤ n := by omega
    have he := pfx_short (a := a) (b := b) (by omega)
    rw [he]
    clear he hn hm ha hb
    go_enter Tryz.func37, Tryz.ntmps37
    go_wp2_with fail
    go_ret
    exact ⟨rfl, rfl⟩
theorem run_build0 (w : World) (t e : TypeId) (hu : Tryz.prog.underlying t = some (.slice e)) (hs : (Tryz.prog.info? e).isSome = true) :
    (Instr.buildSlice t 0 #[]).run Tryz.prog w = .ok (.slice (some ⟨w.heap.size, 0, none⟩) 0 0) (w.alloc (.cells #[] e)) := by
  obtain ⟨ie, hie⟩ := Option.isSome_iff_exists.1 hs
  simp [Instr.buildSlice, run_underlying hu, sizeOf, typeInfo, hie, Instr.fill, newRow]
  rw [show (Array.map (fun x => default) (Array.range 0) : Array Value) = #[] from Array.eq_empty_of_size_eq_zero (by simp)]
theorem wpList_build0 {ops : Array Oper} {rest : List Oper} {o : Oper} {a : Act} {w : World} {Q : Exit → Act → World → Prop} (hg : o.guard = none) (t e : TypeId) (ho : o.op = .buildSlice t 0 #[])
    (hu : Tryz.prog.underlying t = some (.slice e)) (hs : (Tryz.prog.info? e).isSome = true)
    (h : wpList Tryz.prog ops Q rest (a.put o.dst (.slice (some ⟨w.heap.size, 0, none⟩) 0 0)) (w.alloc (.cells #[] e))) : wpList Tryz.prog ops Q (o :: rest) a w :=
  wpList_plain hg fun _ hK => by
    unfold Oper.wp execOp
    have hr := run_build0 w t e hu hs
    simp only [ho, Sem.run_bind]
    simp only [Array.map_empty] at hr ⊢
    rw [hr]
    exact hK _ _ h
theorem ow_built0 (w : World) (base : Nat) (hb : base ≤ w.heap.size) : Ow (w.alloc (.cells #[] 5)) base (.slice (some ⟨w.heap.size, 0, none⟩) 0 0) [] :=
  ⟨by simp, by simp [bs], .inr ⟨w.heap.size, 0, #[], rfl, hb, heap_alloc_new w _, Nat.le_refl _, by simp, by simp, by simp [bs]⟩⟩
set_option maxRecDepth 100000 in
set_option maxHeartbeats 1000000 in
theorem bclone_any (A : Option Addr) (n c : Nat) (l : List Nat) (w : World) (hn : n = l.length) (hl : l.length ≤ 140737488355000) (hr : Rd w A l) :
    Calls Tryz.prog 39 #[.slice A n c] w fun e w' => ∃ v, e = .returned v ∧ Ow w' w.heap.size v l ∧ Below w.heap.size w w' := by
  rcases A with _ | a
  · have hln : l = [] := by
      cases l with
      | nil => rfl
      | cons x t => obtain ⟨g, o, e, _⟩ := hr.2 (by simp); cases e
    subst hln
    clear hr hl hn
    obtain ⟨A, hA⟩ : ∃ A : Option Addr, A = none := ⟨_, rfl⟩
    rw [← hA]
    have heq : ∀ W : World, (binOp .eql 22 (.slice A n c) (.slice none 0 0)).run Tryz.prog W = .ok (.bool true) W := fun W => by
      rw [Lib.run_eql_slice_nil W 22 5 A n c 0 0 Tryz.underlying22, hA]; rfl
    clear hA
    go_enter Tryz.func39, Tryz.ntmps39
    go_wp2_with fail
    go_ret
    exact ⟨_, rfl, Ow.nil _ _, Below.refl _ _⟩
  · have hb0 := (Below.refl w.heap.size w).alloc (Nat.le_refl _) (.cells #[] 5)
    have HR := Lib.hid (hr.below hb0)
    have HO := Lib.hid (ow_built0 w w.heap.size (Nat.le_refl _))
    have HB := Lib.hid hb0
    have HN := Lib.hid hn
    have hs1 : w.heap.size ≤ (w.alloc (.cells #[] 5)).heap.size := hb0.size
    clear hr hn hb0
    have heq : ∀ W : World, (binOp .eql 22 (.slice (some a) n c) (.slice none 0 0)).run Tryz.prog W = .ok (.bool false) W := fun W => Lib.run_eql_slice_nil W 22 5 (some a) n c 0 0 Tryz.underlying22
    go_enter Tryz.func39, Tryz.ntmps39
    go_wp2_with (first
      | (refine wpList_build0 rfl 22 5 rfl Tryz.underlying22 (by kernel_rfl) ?_)
      | (at_builtin; refine append_bytes (.tmp 5) (.tmp 6) rfl rfl rfl HO.out (some a) n c l rfl HN.out HR.out (by simp; omega) hs1 ?_; intro v5 w5 ho5 hg5 ha5; rw [List.nil_append] at ho5; have HO5 := Lib.hid ho5; have HB5 := Lib.hid (HB.out.grown hg5 hs1 (fun x e => (HO.out.lt x e).1)); clear ho5 hg5 ha5))
    go_ret
    exact ⟨_, rfl, HO5.out, HB5.out⟩
end Go.Proofs.YtlhbijpmhokmnaaGreat
