/-
  THE WALKS OF quillpresslaw07's abc, crashed, awake. Conditions: none, the strings small.
-/
import Derived.Test.YtkmjbfednmidbaaDiskW10
import Derived.Test.YtkmjbfednmidbaaStr
import Derived.Lib.SlBytesConst
import Derived.Lib.ConvBytes
namespace Go.Proofs.Ytkmjbfednmidbaa
open Go.RowKit
set_option linter.unusedSimpArgs false
set_option linter.unusedVariables false

/-- A disk of the call's own. -/
def Fr (base : Nat) (w0 w : World) (g : Nat) (d : DkS) : Prop := ∃ nb ob, Dk w g nb ob d ∧ base ≤ g ∧ (∀ k, nb = some k → base ≤ k) ∧ (∀ k, ob = some k → base ≤ k) ∧ Below base w0 w
section
variable {base g : Nat} {w0 w w' : World} {d d' : DkS}
theorem Fr.below' (h : Fr base w0 w g d) (hb : Below w.heap.size w w') (hs : base ≤ w.heap.size) : Fr base w0 w' g d := by
  obtain ⟨nb, ob, h1, h2, h3, h4, h5⟩ := h
  exact ⟨nb, ob, h1.below hb, h2, h3, h4, h5.trans (hb.mono hs)⟩
theorem Fr.at (h : Fr base w0 w g d) : base ≤ w.heap.size := by
  obtain ⟨nb, ob, h1, h2, h3, h4, h5⟩ := h
  exact Nat.le_trans h2 (Nat.le_of_lt h1.lt)
theorem Fr.below (h : Fr base w0 w g d) (hb : Below w.heap.size w w') : Fr base w0 w' g d := h.below' hb h.at
theorem Fr.of (h : Fr base w0 w g d) {nb ob : Option Nat} (h1 : Dk w' g nb ob d') (hg : w.grownBy w' (some g)) (h3 : ∀ k, nb = some k → base ≤ k) (h4 : ∀ k, ob = some k → base ≤ k) : Fr base w0 w' g d' := by
  obtain ⟨nb0, ob0, k1, k2, k3, k4, k5⟩ := h
  exact ⟨nb, ob, h1, k2, h3, h4, below_of_grown k5 hg (Nat.le_trans k2 (Nat.le_of_lt k1.lt)) k2⟩
theorem fr_new {nb ob nb' : Option Nat} (hs : base ≤ w.heap.size) (h3 : ∀ k, nb = some k → base ≤ k) (h4 : ∀ k, ob = some k → base ≤ k) (h : New w nb nb' ∨ New w ob nb') : ∀ k, nb' = some k → base ≤ k := by
  intro k e
  rcases h with (rfl | h) | (rfl | h)
  · exact h3 k e
  · exact Nat.le_trans hs (h k e)
  · exact h4 k e
  · exact Nat.le_trans hs (h k e)
/-- A call on it. -/
theorem Fr.call (h : Fr base w0 w g d) : ∃ nb ob, Dk w g nb ob d ∧ ∀ d' w', After w g nb ob d' w' → Fr base w0 w' g d' := by
  have hs := h.at
  have h0 := h
  obtain ⟨nb, ob, h1, h2, h3, h4, h5⟩ := h
  refine ⟨nb, ob, h1, fun d' w' ⟨nb', ob', k1, k2, k3, k4⟩ => h0.of k1 k4 (fr_new hs h3 h4 k2) (fr_new hs h3 h4 k3)⟩
end
theorem bytesW_below (w : World) (e : TypeId) (s : ByteArray) : Below w.heap.size w (Lib.bytesWorld w e s) := by
  have hg : w.grownBy (Lib.bytesWorld w e s) none := ⟨rfl, rfl, rfl, by rw [Lib.bytesWorld_size]; omega, fun i hi _ => Lib.bytesWorld_at_old w e s i hi⟩
  exact ⟨hg.os, hg.tape, hg.output, hg.size, fun i hi => hg.block i hi (by simp)⟩
theorem bytesW_rd (w : World) (e : TypeId) (s : ByteArray) : Rd (Lib.bytesWorld w e s) (some ⟨w.heap.size, 0, none⟩) (strB s) := by
  refine ⟨fun x hx => ?_, fun hl => ⟨w.heap.size, 0, rfl, by rw [Lib.bytesWorld_size]; omega, fun i hi => ?_⟩⟩
  · unfold strB at hx
    obtain ⟨y, -, rfl⟩ := List.mem_map.1 hx
    exact y.toNat_lt
  · rw [Nat.zero_add, Lib.bytesWorld_cell w e s i (by rw [← strB_length]; exact hi)]
    have hi' : i < s.data.toList.length := by simpa [strB] using hi
    rw [nth_get hi]
    have hi2 : i < s.data.size := by simpa using hi'
    simp only [strB, List.getD, List.getElem_map, Array.getElem_toList, Array.getElem?_toList]
    rw [Array.getElem?_eq_getElem hi2]
    rfl
theorem constW_rd (w : World) (e : TypeId) (l : List Nat) (h : ∀ x ∈ l, x < 256) (fr : Nat × Nat) : Rd (w.alloc (.cells (l.map fun x => Value.int .u8 (x : Nat)).toArray e fr)) (some ⟨w.heap.size, 0, none⟩) l := by
  refine ⟨h, fun hl => ⟨w.heap.size, 0, rfl, by simp, fun i hi => ?_⟩⟩
  rw [Nat.zero_add, cell_of_row _ _ _ _ _ _ (heap_alloc_new w _), nth_get hi]
  simp [hi]
theorem conv_str {w : World} {A : Option Addr} {l : List Nat} (h : Rd w A l) (c : Nat) : (convert 32 9 (.slice A l.length c)).run Try.prog w = .ok (.string (mkS l)) w := by
  rcases A with _ | ad
  · have hln : l = [] := by
      cases l with
      | nil => rfl
      | cons a t => obtain ⟨g, o, e, _⟩ := h.2 (by simp); cases e
    subst hln
    rw [show ([] : List Nat).length = 0 from rfl, run_convert_bytes_string (P := Try.prog) w 32 9 5 none 0 c Try.underlying32 Try.underlying5 Try.underlying9]
    simp [Conv.bytesToString]
    rfl
  · have := run_convert_bytes_back (P := Try.prog) w 32 9 5 ad c (l.map UInt8.ofNat) Try.underlying32 Try.underlying5 Try.underlying9 (fun j hj => by
      have hj' : j < l.length := by simpa using hj
      obtain ⟨g, o, e, _, hc⟩ := h.2 (by intro e; rw [e] at hj'; simp at hj')
      injection e with e
      subst e
      have hx := hc j hj'
      have e2 : (⟨g, o, none⟩ : Addr).add j = ⟨g, o + j, none⟩ := by unfold Addr.add; split <;> simp [*]
      rw [e2, hx, nth_get hj']
      have := h.1 _ (List.getElem_mem hj')
      simp [UInt8.toNat_ofNat']
      omega)
    rw [List.length_map] at this
    exact this
def abcD (m : List Nat) : DkS := ⟨1000, [97, 98, 99] ++ m, [97, 98, 99], 3, false, -1, 0, 0⟩
set_option maxRecDepth 100000 in
set_option maxHeartbeats 2000000 in
theorem abc_any (s : ByteArray) (w : World) (hs : s.size ≤ 997) :
    Calls Try.prog 30 #[.string s] w fun e w' => ∃ g, e = .returned (.pointer (some ⟨g, 0, none⟩)) ∧ Fr w.heap.size w w' g (abcD (strB s)) := by
  have kc := fun (w : World) (C : Array Value) (n c : Nat) => Lib.run_convert_bytes_const (P := Try.prog) w 32 5 C n c Try.underlying32 Try.underlying5
  have ks := fun w : World => Lib.run_convert_string_bytes (P := Try.prog) w 9 32 5 s Try.underlying9 Try.underlying32 Try.underlying5
  have hsl : (strB s).length = s.size := strB_length s
  have HSL := Lib.hid hsl
  clear hsl
  go_enter Try.func30, Try.ntmps30
  go_wp2_with fail
  refine (new_any' 1000 w (by omega)).mono ?_
  rintro e w1 ⟨g, nb, ob, rfl, hd, hg, hn, ho, hb⟩
  have HF : Hid (Fr w.heap.size w w1 g (mkD 1000 [])) := ⟨nb, ob, hd, hg, hn, ho, hb⟩
  clear hd hg hn ho hb
  go_wp2_with fail
  have HF2 := Lib.hid (HF.out.below (w' := w1.alloc (.cells #[.int .u8 97, .int .u8 98, .int .u8 99] 5 (3, 3 + 1))) ((Below.refl _ _).alloc (Nat.le_refl _) _))
  obtain ⟨nb2, ob2, hd2, hc2⟩ := HF2.out.call
  have HC2 := Lib.hid hc2
  refine (append_any hd2 (some ⟨w1.heap.size, 0, none⟩) 3 [97, 98, 99] (by simp) (constW_rd w1 5 [97, 98, 99] (by simp) _)).mono ?_
  rintro e w3 ⟨r3, rfl, ha3, hr3⟩
  have HF3 := Lib.hid (HC2.out _ _ ha3)
  clear ha3 hc2 hd2
  go_wp2_with fail
  obtain ⟨nb3, ob3, hd3, hc3⟩ := HF3.out.call
  have HC3 := Lib.hid hc3
  refine (sync_any hd3).mono ?_
  rintro e w4 ⟨r4, rfl, ha4, hr4⟩
  have HF4 := Lib.hid (HC3.out _ _ ha4)
  clear ha4 hc3 hd3
  go_wp2_with fail
  have HF5 := Lib.hid (HF4.out.below (bytesW_below w4 5 s))
  obtain ⟨nb5, ob5, hd5, hc5⟩ := HF5.out.call
  have HC5 := Lib.hid hc5
  have hA := append_any hd5 (some ⟨w4.heap.size, 0, none⟩) (grownCap w4 s.size 0 5) (strB s) (by rw [HSL.out]; omega) (bytesW_rd w4 5 s)
  rw [HSL.out] at hA
  refine hA.mono ?_
  rintro e w6 ⟨r6, rfl, ha6, hr6⟩
  have HF6 := Lib.hid (HC5.out _ _ ha6)
  clear ha6 hc5 hd5 hA
  go_wp2_with fail
  go_ret
  refine ⟨g, rfl, ?_⟩
  have hD : (DkS.append (DkS.sync (DkS.append (mkD 1000 []) [97, 98, 99]).2).2 (strB s)).2 = abcD (strB s) := by
    have e1 : (DkS.sync (DkS.append (mkD 1000 []) [97, 98, 99]).2).2 = abcD [] := rfl
    rw [e1]
    have e2 : (abcD []).append (strB s) = if (1000 : Nat) < 3 + (strB s).length then (5, abcD []) else (0, abcD (strB s)) := rfl
    rw [e2, if_neg (by rw [HSL.out]; omega)]
  rw [← hD]
  exact HF6.out
set_option maxRecDepth 100000 in
set_option maxHeartbeats 2000000 in
theorem crashed_any {g : Nat} {nb ob : Option Nat} {d : DkS} {w : World} (h : Dk w g nb ob d) (hfl : d.floor ≤ d.now.length) (keep : Int) (s : ByteArray) (hs : s.size ≤ 1000) :
    Calls Try.prog 31 #[.pointer (some ⟨g, 0, none⟩), .int .i64 keep, .string s] w fun e w' => e = .returned (.string (mkS (crLeft d keep (strB s)))) ∧ Below w.heap.size w w' := by
  have ks := fun w : World => Lib.run_convert_string_bytes (P := Try.prog) w 9 32 5 s Try.underlying9 Try.underlying32 Try.underlying5
  have HSL := Lib.hid (strB_length s)
  have H := Lib.hid h
  have HFl := Lib.hid hfl
  clear h hfl
  go_enter Try.func31, Try.ntmps31
  go_wp2_with fail
  refine (copy_any H.out).mono ?_
  rintro e w1 ⟨g', nb', ob', rfl, hd, hg, hn, ho, hb⟩
  have HF : Hid (Fr w.heap.size w w1 g' d) := ⟨nb', ob', hd, hg, hn, ho, hb⟩
  clear hd hg hn ho hb
  go_wp2_with fail
  have HF2 := Lib.hid (HF.out.below (bytesW_below w1 5 s))
  obtain ⟨nb2, ob2, hd2, hc2⟩ := HF2.out.call
  have HC2 := Lib.hid hc2
  have hcr : Calls Try.prog 23 #[.pointer (some ⟨g', 0, none⟩), .agg #[.int .i64 keep, .slice (some ⟨w1.heap.size, 0, none⟩) (strB s).length (grownCap w1 s.size 0 5)]] (Lib.bytesWorld w1 5 s) fun e w' => e = .returned (.int .i64 0) ∧ After (Lib.bytesWorld w1 5 s) g' nb2 ob2 (crashD d (crLeft d keep (strB s))) w' := by
    by_cases hk : keep < 0
    · have : crLeft d keep (strB s) = d.old := if_pos hk
      rw [this]
      exact crash_old hd2 keep hk _ _ _
    · exact crash_now hd2 HFl.out keep (by omega) _ _ _ (bytesW_rd w1 5 s) (by rw [HSL.out]; omega)
  rw [HSL.out] at hcr
  refine hcr.mono ?_
  rintro e w3 ⟨rfl, ha3⟩
  have HF3 := Lib.hid (HC2.out _ _ ha3)
  clear ha3 hc2 hd2 hcr
  go_wp2_with fail
  obtain ⟨nb3, ob3, hd3, hc3⟩ := HF3.out.call
  refine (image_any hd3).mono ?_
  rintro e w4 ⟨v, b, rfl, ⟨A, c, rfl, -, -, hr, -⟩, -, hb4⟩
  have HF4 := Lib.hid (HF3.out.below hb4)
  have kv := conv_str hr c
  clear hd3 hc3 hr hb4
  go_wp2_with fail
  go_ret
  refine ⟨rfl, ?_⟩
  obtain ⟨_, _, _, _, _, _, h⟩ := HF4.out
  exact h

set_option maxRecDepth 100000 in
set_option maxHeartbeats 4000000 in
theorem awake_any (w : World) : Calls Try.prog 24 #[] w fun e w' => e = .returned (.bool true) ∧ Below w.heap.size w w' := by
  go_enter Try.func24, Try.ntmps24
  go_wp2_with fail
  refine (abc_any ⟨#[100, 101]⟩ w (by decide)).mono ?_
  rintro e w1 ⟨g, rfl, hf⟩
  have e0 : abcD (strB ⟨#[100, 101]⟩) = ⟨1000, [97, 98, 99, 100, 101], [97, 98, 99], 3, false, -1, 0, 0⟩ := by kernel_rfl
  rw [e0] at hf
  have HF := Lib.hid hf
  have hk : ∀ w2, Below w1.heap.size w1 w2 → ∃ nb ob, Dk w2 g nb ob ⟨1000, [97, 98, 99, 100, 101], [97, 98, 99], 3, false, -1, 0, 0⟩ := fun w2 hb => by
    obtain ⟨nb, ob, h, _⟩ := HF.out.below hb
    exact ⟨nb, ob, h⟩
  have HK := Lib.hid hk
  clear hf hk
  obtain ⟨nb, ob, hd⟩ := HK.out w1 (Below.refl _ _)
  have HD := Lib.hid hd
  clear hd
  go_wp2_with fail
  refine (size_any HD.out).mono ?_
  rintro e w2 ⟨rfl, rfl⟩
  go_wp2_with fail
  refine (synced_any HD.out).mono ?_
  rintro e w2 ⟨rfl, rfl⟩
  go_wp2_with fail
  have HB0 : Hid (Below w1.heap.size w1 w1) := Below.refl _ _
  obtain ⟨nb, ob, hd⟩ := HK.out w1 HB0.out
  have HD := Lib.hid hd
  clear hd
  refine (crashed_any HD.out (by decide) 1 ⟨#[]⟩ (by decide)).mono ?_
  rintro e w2 ⟨hs, hb⟩
  rw [show mkS (crLeft ⟨1000, [97, 98, 99, 100, 101], [97, 98, 99], 3, false, -1, 0, 0⟩ 1 (strB ⟨#[]⟩)) = ⟨#[97, 98, 99, 100]⟩ by kernel_rfl] at hs
  subst hs
  have HB1 : Hid (Below w1.heap.size w1 w2) := HB0.out.trans (hb.mono HB0.out.size)
  clear hb
  go_wp2_with fail
  obtain ⟨nb, ob, hd⟩ := HK.out w2 HB1.out
  have HD := Lib.hid hd
  clear hd
  refine (crashed_any HD.out (by decide) 1 ⟨#[120]⟩ (by decide)).mono ?_
  rintro e w3 ⟨hs, hb⟩
  rw [show mkS (crLeft ⟨1000, [97, 98, 99, 100, 101], [97, 98, 99], 3, false, -1, 0, 0⟩ 1 (strB ⟨#[120]⟩)) = ⟨#[97, 98, 99, 120]⟩ by kernel_rfl] at hs
  subst hs
  have HB2 : Hid (Below w1.heap.size w1 w3) := HB1.out.trans (hb.mono HB1.out.size)
  clear hb
  go_wp2_with fail
  obtain ⟨nb, ob, hd⟩ := HK.out w3 HB2.out
  have HD := Lib.hid hd
  clear hd
  refine (crashed_any HD.out (by decide) 0 ⟨#[120]⟩ (by decide)).mono ?_
  rintro e w4 ⟨hs, hb⟩
  rw [show mkS (crLeft ⟨1000, [97, 98, 99, 100, 101], [97, 98, 99], 3, false, -1, 0, 0⟩ 0 (strB ⟨#[120]⟩)) = ⟨#[97, 98, 99]⟩ by kernel_rfl] at hs
  subst hs
  have HB3 : Hid (Below w1.heap.size w1 w4) := HB2.out.trans (hb.mono HB2.out.size)
  clear hb
  go_wp2_with fail
  obtain ⟨nb, ob, hd⟩ := HK.out w4 HB3.out
  have HD := Lib.hid hd
  clear hd
  refine (crashed_any HD.out (by decide) (-1) ⟨#[120]⟩ (by decide)).mono ?_
  rintro e w5 ⟨hs, hb⟩
  rw [show mkS (crLeft ⟨1000, [97, 98, 99, 100, 101], [97, 98, 99], 3, false, -1, 0, 0⟩ (-1) (strB ⟨#[120]⟩)) = ⟨#[97, 98, 99]⟩ by kernel_rfl] at hs
  subst hs
  have HB4 : Hid (Below w1.heap.size w1 w5) := HB3.out.trans (hb.mono HB3.out.size)
  clear hb
  go_wp2_with fail
  obtain ⟨nb, ob, hd⟩ := HK.out w5 HB4.out
  have HD := Lib.hid hd
  clear hd
  refine (crashed_any HD.out (by decide) 9 ⟨#[]⟩ (by decide)).mono ?_
  rintro e w6 ⟨hs, hb⟩
  rw [show mkS (crLeft ⟨1000, [97, 98, 99, 100, 101], [97, 98, 99], 3, false, -1, 0, 0⟩ 9 (strB ⟨#[]⟩)) = ⟨#[97, 98, 99, 100, 101]⟩ by kernel_rfl] at hs
  subst hs
  have HB5 : Hid (Below w1.heap.size w1 w6) := HB4.out.trans (hb.mono HB4.out.size)
  clear hb
  go_wp2_with fail
  go_ret
  refine ⟨rfl, ?_⟩
  obtain ⟨_, _, _, _, _, _, h⟩ := HF.out.below HB5.out
  exact h
end Go.Proofs.Ytkmjbfednmidbaa
