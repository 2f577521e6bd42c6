/-
  THE WALKS OF quillpresslaw07's abc, crashed, awake. Conditions: none, the strings small.
  append(b, make([]byte, n)...) TO A SLICE OF THE CALL'S OWN. Conditions: few bytes.
  LENT AND KEPT SLICES, IN THE FORM THAT A LAW's WALK WANTS.
-/
import Derived.Test.YtlhbijpmhokmnaaGreatQ16
import Derived.Test.YtlhbijpmhokmnaaGreatQ08
import Derived.Lib.SlBytesConst
import Derived.Lib.ConvBytes
import Derived.Test.YtlhbijpmhokmnaaGreatQ01
import Derived.Lib.AppendZeros
import Derived.Test.YtlhbijpmhokmnaaGreatQ11
namespace Go.Proofs.YtlhbijpmhokmnaaGreat
open Go.RowKit
set_option linter.unusedSimpArgs false
set_option linter.unusedVariables false

/-- A disk of the call's own. -/
def Fr (base : Nat) (w0 w : World) (g : Nat) (d : DkS) : Prop := ∃ nb ob, Dk w g nb ob d ∧ base ≤ g ∧ (∀ k, nb = some k → base ≤ k) ∧ (∀ k, ob = some k → base ≤ k) ∧ Below base w0 w
section
variable {base g : Nat} {w0 w w' : World} {d d' : DkS}
theorem Fr.below' (h : Fr base w0 w g d) (hb : Below w.heap.size w w') (hs : base ≤ w.heap.size) : Fr base w0 w' g d := by
  obtain ⟨nb, ob, h1, h2, h3, h4, h5⟩ := h
  exact ⟨nb, ob, h1.below hb, h2, h3, h4, h5.trans (hb.mono hs)⟩
theorem Fr.at (h : Fr base w0 w g d) : base ≤ w.heap.size := by
  obtain ⟨nb, ob, h1, h2, h3, h4, h5⟩ := h
  exact Nat.le_trans h2 (Nat.le_of_lt h1.lt)
theorem Fr.below (h : Fr base w0 w g d) (hb : Below w.heap.size w w') : Fr base w0 w' g d := h.below' hb h.at
theorem Fr.of (h : Fr base w0 w g d) {nb ob : Option Nat} (h1 : Dk w' g nb ob d') (hg : w.grownBy w' (some g)) (h3 : ∀ k, nb = some k → base ≤ k) (h4 : ∀ k, ob = some k → base ≤ k) : Fr base w0 w' g d' := by
  obtain ⟨nb0, ob0, k1, k2, k3, k4, k5⟩ := h
  exact ⟨nb, ob, h1, k2, h3, h4, below_of_grown k5 hg (Nat.le_trans k2 (Nat.le_of_lt k1.lt)) k2⟩
theorem fr_new {nb ob nb' : Option Nat} (hs : base ≤ w.heap.size) (h3 : ∀ k, nb = some k → base ≤ k) (h4 : ∀ k, ob = some k → base ≤ k) (h : New w nb nb' ∨ New w ob nb') : ∀ k, nb' = some k → base ≤ k := by
  intro k e
  rcases h with (rfl | h) | (rfl | h)
  · exact h3 k e
  · exact Nat.le_trans hs (h k e)
  · exact h4 k e
  · exact Nat.le_trans hs (h k e)
/-- A call on it. -/
theorem Fr.call (h : Fr base w0 w g d) : ∃ nb ob, Dk w g nb ob d ∧ ∀ d' w', After w g nb ob d' w' → Fr base w0 w' g d' := by
  have hs := h.at
  have h0 := h
  obtain ⟨nb, ob, h1, h2, h3, h4, h5⟩ := h
  refine ⟨nb, ob, h1, fun d' w' ⟨nb', ob', k1, k2, k3, k4⟩ => h0.of k1 k4 (fr_new hs h3 h4 k2) (fr_new hs h3 h4 k3)⟩
end
theorem bytesW_below (w : World) (e : TypeId) (s : ByteArray) : Below w.heap.size w (Lib.bytesWorld w e s) := by
  have hg : w.grownBy (Lib.bytesWorld w e s) none := ⟨rfl, rfl, rfl, by rw [Lib.bytesWorld_size]; omega, fun i hi _ => Lib.bytesWorld_at_old w e s i hi⟩
  exact ⟨hg.os, hg.tape, hg.output, hg.size, fun i hi => hg.block i hi (by simp)⟩
theorem bytesW_rd (w : World) (e : TypeId) (s : ByteArray) : Rd (Lib.bytesWorld w e s) (some ⟨w.heap.size, 0, none⟩) (strB s) := by
  refine ⟨fun x hx => ?_, fun hl => ⟨w.heap.size, 0, rfl, by rw [Lib.bytesWorld_size]; omega, fun i hi => ?_⟩⟩
  · unfold strB at hx
    obtain ⟨y, -, rfl⟩ := List.mem_map.1 hx
    exact y.toNat_lt
  · rw [Nat.zero_add, Lib.bytesWorld_cell w e s i (by rw [← strB_length]; exact hi)]
    have hi' : i < s.data.toList.length := by simpa [strB] using hi
    rw [nth_get hi]
    have hi2 : i < s.data.size := by simpa using hi'
    simp only [strB, List.getD, List.getElem_map, Array.getElem_toList, Array.getElem?_toList]
    rw [Array.getElem?_eq_getElem hi2]
    rfl
theorem constW_rd (w : World) (e : TypeId) (l : List Nat) (h : ∀ x ∈ l, x < 256) (fr : Nat × Nat) : Rd (w.alloc (.cells (l.map fun x => Value.int .u8 (x : Nat)).toArray e fr)) (some ⟨w.heap.size, 0, none⟩) l := by
  refine ⟨h, fun hl => ⟨w.heap.size, 0, rfl, by simp, fun i hi => ?_⟩⟩
  rw [Nat.zero_add, cell_of_row _ _ _ _ _ _ (heap_alloc_new w _), nth_get hi]
  simp [hi]
theorem conv_str {w : World} {A : Option Addr} {l : List Nat} (h : Rd w A l) (c : Nat) : (convert 22 9 (.slice A l.length c)).run Tryz.prog w = .ok (.string (mkS l)) w := by
  rcases A with _ | ad
  · have hln : l = [] := by
      cases l with
      | nil => rfl
      | cons a t => obtain ⟨g, o, e, _⟩ := h.2 (by simp); cases e
    subst hln
    rw [show ([] : List Nat).length = 0 from rfl, run_convert_bytes_string (P := Tryz.prog) w 22 9 5 none 0 c Tryz.underlying22 Tryz.underlying5 Tryz.underlying9]
    simp [Conv.bytesToString]
    rfl
  · have := run_convert_bytes_back (P := Tryz.prog) w 22 9 5 ad c (l.map UInt8.ofNat) Tryz.underlying22 Tryz.underlying5 Tryz.underlying9 (fun j hj => by
      have hj' : j < l.length := by simpa using hj
      obtain ⟨g, o, e, _, hc⟩ := h.2 (by intro e; rw [e] at hj'; simp at hj')
      injection e with e
      subst e
      have hx := hc j hj'
      have e2 : (⟨g, o, none⟩ : Addr).add j = ⟨g, o + j, none⟩ := by unfold Addr.add; split <;> simp [*]
      rw [e2, hx, nth_get hj']
      have := h.1 _ (List.getElem_mem hj')
      simp [UInt8.toNat_ofNat']
      omega)
    rw [List.length_map] at this
    exact this
def abcD (m : List Nat) : DkS := ⟨1000, [97, 98, 99] ++ m, [97, 98, 99], 3, false, -1, 0, 0⟩
end Go.Proofs.YtlhbijpmhokmnaaGreat
namespace Go.Proofs.YtlhbijpmhokmnaaGreat
open Go.RowKit
set_option linter.unusedSimpArgs false
set_option linter.unusedVariables false

theorem zeros_list (m : Nat) : (Builtin.zeroCells #[Value.int .u8 0] m).toList = List.replicate m (Value.int .u8 0) := by
  simp [Builtin.zeroCells, Nat.mod_one, List.map_const']
theorem bs_zeros (m : Nat) : bs (List.replicate m 0) = List.replicate m (Value.int .u8 0) := by
  simp [bs]
  exact .inr rfl
theorem grown_self (w : World) (r : Option Nat) : w.grownBy w r := ⟨rfl, rfl, rfl, Nat.le_refl _, fun _ _ _ => rfl⟩
theorem run_append_zeros (w : World) (base : Nat) (v : Value) (l : List Nat) (hown : Ow w base v l) (m : Nat) (hm : l.length + m ≤ 1000) (hbase : base ≤ w.heap.size) (ty : TypeId) :
    ∃ v' w', (Builtin.append_ #[22, 3] ty #[v, .int .i64 (m : Nat)]).run Tryz.prog w = .ok v' w' ∧ Ow w' base v' (l ++ List.replicate m 0) ∧ w.grownBy w' v.ownBlock := by
  obtain ⟨i, hi, hz, hs, hby⟩ := info_parts info_u8
  have hw : IntKind.i64.wrap (m : Int) = m := by rw [IntKind.wrap_i64]; omega
  have hneg : ¬ ((m : Int) < 0) := by omega
  have hb0 : ∀ x ∈ l ++ List.replicate m 0, x < 256 := fun x hx => by
    rcases List.mem_append.1 hx with h | h
    · exact hown.1 x h
    · rw [(List.mem_replicate.1 h).2]; omega
  have ht := Tryz.underlying22
  have htn := Tryz.underlying3
  have hb := hown.2
  have h48i : ¬ (281474976710656 < (m : Int) * (i.bytes : Int)) := by rw [hby]; omega
  by_cases m0 : m = 0
  · subst m0
    have hw0 : IntKind.i64.wrap (0 : Int) = 0 := by kernel_rfl
    refine ⟨v, w, ?_, by simpa using hown, grown_self _ _⟩
    obtain ⟨hlen, ⟨rfl, hn⟩ | ⟨g, cap, cur, rfl, hbg, hg, hnc, hcm, hcs, htake⟩⟩ := hb
    · simp [Builtin.append_, run_underlying ht, run_underlying htn, sizeOf, typeInfo, hi, asInt, asIntOf, hw0]
    · simp [Builtin.append_, run_underlying ht, run_underlying htn, sizeOf, typeInfo, hi, asInt, asIntOf, hw0, hnc, storeCells]
  · have hL : (l ++ List.replicate m 0).length = l.length + m := by simp
    have hzc : (Value.int .u8 0).cells = #[Value.int .u8 0] := rfl
    have h63' : ¬ (9223372036854775807 < ((l.length : Int) + (m : Int))) := by omega
    have hq : (Question.appendCap (l.length + m) 0 5).forced = false := rfl
    have hnew : ∀ old, old < l.length + m → Ow (w.drew.alloc (.cells ((bs l).toArray ++ Builtin.zeroCells #[Value.int .u8 0] m ++ Builtin.zeroCells #[Value.int .u8 0] (grownCap w (l.length + m) old 5 - (l.length + m))) 5)) base
        (.slice (some ⟨w.heap.size, 0, none⟩) (l.length + m) (grownCap w (l.length + m) old 5)) (l ++ List.replicate m 0) := by
      intro old ho
      have hge := grownCap_ge w (l.length + m) old 5
      have hcm := grownCap_le_maxLen w (l.length + m) old 5 (by unfold maxLen; omega)
      refine ⟨hb0, ?_⟩
      rw [hL, bs_append, bs_zeros]
      refine ⟨by simp [bs_length], .inr ⟨w.heap.size, _, _, rfl, hbase, heap_alloc_new w.drew _, hge, hcm, ?_, ?_⟩⟩
      · simp only [Array.size_append, List.size_toArray, size_zeroCells, bs_length]
        simp
        omega
      · simp only [Array.toList_append, List.append_assoc, zeros_list]
        rw [← List.append_assoc]
        apply List.take_left'
        simp [bs_length]
    have hgrow : ∀ (C : Array Value) (r : Option Nat), w.grownBy (w.drew.alloc (.cells C 5)) r := fun C r => ⟨rfl, rfl, rfl, by simp, fun k hk _ => heap_alloc_old w.drew _ hk⟩
    obtain ⟨hlen, ⟨rfl, hn⟩ | ⟨g, cap, cur, rfl, hbg, hg, hnc, hcm, hcs, htake⟩⟩ := hb
    · have hl : l = [] := List.eq_nil_of_length_eq_zero hn
      subst hl
      have hr := Lib.run_append_nil_zeros (P := Tryz.prog) w 22 3 ty 5 i (.int .u8 0) .i64 .i64 ht htn hi hz m (by omega) (by omega) (by omega) (by rw [hby]; omega)
      have ho := hnew 0 (by simp; omega)
      rw [hzc] at hr
      simp only [List.length_nil, Nat.zero_add, bs, List.map_nil, Array.empty_append] at ho
      exact ⟨_, _, hr, ho, hgrow _ _⟩
    · by_cases hroom : l.length + m ≤ cap
      · have hst := run_storeCells_at Tryz.prog g l.length 5 (List.replicate m (Value.int .u8 0)) 0 cur w hg (by simp; omega) (by intro u hu; rw [(List.mem_replicate.1 hu).2]; rfl)
        simp only [Nat.add_zero, List.length_replicate] at hst
        refine ⟨.slice (some ⟨g, 0, none⟩) (l.length + m) cap, w.setRow g (cur.toList.take l.length ++ List.replicate m (Value.int .u8 0) ++ cur.toList.drop (l.length + m)).toArray, ?_, ⟨hb0, ?_⟩, ⟨rfl, rfl, rfl, by simp, fun k _ hk => setRow_other w g k _ (fun e => hk (by simp [Value.ownBlock, e]))⟩⟩
        · simp [Builtin.append_, run_underlying ht, run_underlying htn, sizeOf, typeInfo, zeroValue, hi, hz, hs, asInt, asIntOf, hw, hneg, h48i, m0, hroom, Addr.add_lit, hzc, zeros_list, hst]
        · rw [hL, bs_append, bs_zeros]
          refine ⟨by simp [bs_length], .inr ⟨g, cap, _, rfl, hbg, setRow_heap w g cur _ 5 _ hg, hroom, hcm, ?_, ?_⟩⟩
          · simp only [List.size_toArray, List.length_append, List.length_take, List.length_drop, Array.length_toList, List.length_replicate]
            omega
          · rw [Nat.mul_one] at htake ⊢
            rw [htake, List.append_assoc]
            rw [← List.append_assoc]
            apply List.take_left'
            simp [bs_length]
      · have hfo := run_firstCells_some (P := Tryz.prog) w.drew 1 l.length ⟨g, 0, none⟩ l.length cap (bs l) (by simp [bs_length]) (by
          intro j u hu
          have := hown.2.cells (g := g) rfl j u hu
          simpa using this)
        have hn' : ¬ (l.length + m ≤ cap) := hroom
        have h48' : ¬ (281474976710656 < Builtin.nextslicecap (l.length + m) cap * 1) := by have := growslice_fits (need := l.length + m) (old := cap) (bytes := 1) (by omega) (by omega); omega
        have h48j : ¬ (281474976710656 < (m : Int)) := by omega
        have h48k : ¬ (281474976710656 < Builtin.nextslicecap (l.length + m) cap) := by omega
        refine ⟨_, _, ?_, hnew cap (by omega), hgrow _ _⟩
        simp [Builtin.append_, run_underlying ht, run_underlying htn, sizeOf, typeInfo, zeroValue, hi, hz, hs, hby, asInt, asIntOf, hw, hneg, h48j, h48k, m0, hn', h63', Question.forced, Addr.add_lit, hzc, hfo, newRow, grownCap]
end Go.Proofs.YtlhbijpmhokmnaaGreat
namespace Go.Proofs.YtlhbijpmhokmnaaGreat
open Go.RowKit
set_option linter.unusedSimpArgs false
set_option linter.unusedVariables false

theorem Lent.app {w : World} {base g c n : Nat} {l : List Nat} (h : Lent w base (.slice (some ⟨g, 0, none⟩) n c) l) : Rd w (some ⟨g, 0, none⟩) l := by
  obtain ⟨g', c', e, _, _, hr⟩ := h
  injection e with e1
  injection e1 with e1
  injection e1 with e1
  subst e1
  refine ⟨fun x hx => hr.1 x (by simp [hx]), fun hn => ?_⟩
  obtain ⟨g, o, e, hg, hc⟩ := hr.2 (by simp [hn])
  refine ⟨g, o, e, hg, fun i hi => ?_⟩
  rw [hc i (by simp; omega)]
  simp [nth, List.getElem?_append_left hi]
theorem rd_takeL {w : World} {A : Option Addr} {l : List Nat} (h : Rd w A l) (k : Nat) : Rd w A (l.take k) := by
  refine ⟨fun x hx => h.1 x (List.mem_of_mem_take hx), fun hn => ?_⟩
  obtain ⟨g, o, e, hg, hc⟩ := h.2 (by rintro rfl; simp at hn)
  refine ⟨g, o, e, hg, fun i hi => ?_⟩
  rw [List.length_take] at hi
  rw [hc i (by omega)]
  simp [nth, List.getElem?_take, show i < k by omega]
theorem same_yes (A1 A2 : Option Addr) (n1 n2 c1 c2 : Nat) (a : List Nat) (w : World) (h1 : n1 = a.length) (h2 : n2 = a.length) (ha : Rd w A1 a) (hb : Rd w A2 a) (hla : a.length ≤ 9223372036854775807) :
    Calls Tryz.prog 9 #[.slice A1 n1 c1, .slice A2 n2 c2] w fun e w' => e = .returned (.bool true) ∧ Below w.heap.size w w' := by
  subst h1
  have hs : sameB a a = true := by simp [sameB]
  have h2' := h2
  subst h2
  refine (same_any A1 A2 c1 c2 a a w ha hb hla hla).mono fun e w' h => ?_
  obtain ⟨rfl, n, rfl⟩ := h
  rw [hs]
  exact ⟨rfl, below_drewN' (Below.refl _ _) n⟩
end Go.Proofs.YtlhbijpmhokmnaaGreat
