/-
  THE WALKS OF lex.run (at its three predicates), lex.number, strings.HasPrefix. Conditions: none but the strings' sizes.
  THE WALKS OF lex.number, strings.HasPrefix, lex.one. Conditions: none but the strings' sizes.
-/
import Derived.Test.YthmpagehmfillaaQ04
import Derived.WalkSpells
import Derived.WalkLawsBesides
import Derived.Deep.QuietTactic
import Derived.BigQuiet
import Derived.Outline
namespace Go.Proofs.Ythmpagehmfillaa
open Go.RowKit
set_option linter.unusedSimpArgs false
set_option linter.unusedVariables false

theorem letter_any (c : Nat) (w : World) : Calls Try.prog 90 #[.int .i32 c] w fun e w' => e = .returned (.bool (letN c)) ∧ w = w' := by
  unfold letN
  by_cases h1 : 97 ≤ c
  · have k1 : (97 : Int) ≤ c := by omega
    by_cases h2 : c ≤ 122
    · have k2 : (c : Int) ≤ 122 := by omega
      go_enter Try.func90, Try.ntmps90
      go_wp2
      go_ret
      exact ⟨by simp [h1, h2], rfl⟩
    · have k2 : ¬ (c : Int) ≤ 122 := by omega
      go_enter Try.func90, Try.ntmps90
      go_wp2
      go_ret
      exact ⟨by simp [h1, h2], rfl⟩
  · have k1 : ¬ (97 : Int) ≤ c := by omega
    go_enter Try.func90, Try.ntmps90
    go_wp2
    go_ret
    exact ⟨by simp [h1], rfl⟩
theorem digit_any (c : Nat) (w : World) : Calls Try.prog 91 #[.int .i32 c] w fun e w' => e = .returned (.bool (digN c)) ∧ w = w' := by
  unfold digN
  by_cases h1 : 48 ≤ c
  · have k1 : (48 : Int) ≤ c := by omega
    by_cases h2 : c ≤ 57
    · have k2 : (c : Int) ≤ 57 := by omega
      go_enter Try.func91, Try.ntmps91
      go_wp2
      go_ret
      exact ⟨by simp [h1, h2], rfl⟩
    · have k2 : ¬ (c : Int) ≤ 57 := by omega
      go_enter Try.func91, Try.ntmps91
      go_wp2
      go_ret
      exact ⟨by simp [h1, h2], rfl⟩
  · have k1 : ¬ (48 : Int) ≤ c := by omega
    go_enter Try.func91, Try.ntmps91
    go_wp2
    go_ret
    exact ⟨by simp [h1], rfl⟩
theorem notnl_any (c : Nat) (w : World) : Calls Try.prog 70 #[.int .i32 c] w fun e w' => e = .returned (.bool (nlN c)) ∧ w = w' := by
  unfold nlN
  go_enter Try.func70, Try.ntmps70
  go_wp2
  go_ret
  refine ⟨?_, rfl⟩
  have e : ((c : Int) != 10) = !(c == 10) := by
    rw [Bool.eq_iff_iff]
    simp [bne_iff_ne]
    omega
  show Ending.returned (.bool ((c : Int) != 10)) = _
  rw [e]

theorem dec_kind (k : Nat → Bool) (hi : Bool) (hk : ∀ c, 128 ≤ c → k c = hi) (s : ByteArray) (pos : Nat) (hp : pos < s.size) :
    k (Utf8.decode s pos).1 = k (nth (strB s) pos) ∧ 1 ≤ (Utf8.decode s pos).2 ∧ (k (nth (strB s) pos) = true → ∀ j, j < (Utf8.decode s pos).2 → pos + j < s.size ∧ k (nth (strB s) (pos + j)) = true) := by
  have hn := strB_nth hp
  rcases Nat.lt_or_ge (nth (strB s) pos) 128 with h | h
  · rw [hn] at h
    rw [decode_ascii s pos hp h, ← hn]
    refine ⟨rfl, Nat.le_refl _, fun h1 j hj => ?_⟩
    obtain rfl : j = 0 := by simpa using hj
    exact ⟨hp, h1⟩
  · have h' := h
    rw [hn] at h'
    obtain ⟨h1, h2⟩ := decode_high s pos hp h'
    refine ⟨by rw [hk _ h1, hk _ h], h2, fun h3 j hj => ?_⟩
    obtain ⟨h4, h5⟩ := decode_mid s pos hp h j hj
    exact ⟨h4, by rw [hk _ h5, ← hk _ h]; exact h3⟩
theorem iterPos_of {w : World} {k : Nat} {s : ByteArray} {p : Nat} (h : w.heap[k]? = some (.stringIter s p)) : w.iterPos k = p := by simp [World.iterPos, h]

set_option maxRecDepth 100000 in
set_option maxHeartbeats 1000000 in
theorem run_letter (s : ByteArray) (w : World) : Calls Try.prog 69 #[.string s, .func (.func 90) #[] #[]] w fun e w' => e = .returned (.int .i64 (wl letN (strB s) : Nat)) ∧ Below w.heap.size w w' := by
  go_enter Try.func69, Try.ntmps69
  go_wp2
  go_loopw [5] (fun _ wr => ∃ pos : Nat, wr.heap[w.heap.size]? = some (.stringIter s pos) ∧ Below w.heap.size w wr ∧ Hid (∀ j, j < pos → letN (nth (strB s) j) = true)) (fun _ wr => s.size - wr.iterPos w.heap.size)
  case atStart => exact ⟨0, World.iter_heap w s 0, (Below.refl _ _).alloc (Nat.le_refl _) _, fun j hj => by omega⟩
  case round =>
    obtain ⟨pos, hit, hb, HA⟩ := hrel
    have hpos := iterPos_of hit
    by_cases hp : pos < s.size
    · have hnx : ∀ ty, (Instr.next (.pointer (some ⟨w.heap.size, 0, none⟩)) true ty).run Try.prog wr = _ := fun ty => Lib.run_next_any_at wr w.heap.size s pos ty hit hp
      obtain ⟨d1, d2, d3⟩ := dec_kind letN false (fun c hc => by simp [letN]; try omega) s pos hp
      have hit2 := Lib.iterAt_heap wr w.heap.size s pos (pos + (Utf8.decode s pos).2) hit
      have hb2 := Lib.below_iterAt hb (k := w.heap.size) (Nat.le_refl _) s (pos + (Utf8.decode s pos).2)
      have hpos2 := iterPos_of hit2
      generalize wr.iterAt w.heap.size s (pos + (Utf8.decode s pos).2) = W1 at *
      generalize (Utf8.decode s pos).1 = c at *
      generalize (Utf8.decode s pos).2 = n at *
      have D3 := Lib.hid d3
      have HIT := Lib.hid hit2
      have HB := Lib.hid hb2
      have HP := Lib.hid hpos
      have HP2 := Lib.hid hpos2
      clear d3 hit hb hit2 hb2 hpos hpos2
      by_cases hk : letN (nth (strB s) pos) = true
      · have hc : letN c = true := by rw [d1]; exact hk
        have D4 := Lib.hid (D3.out hk)
        clear d1 hk D3
        go_wp2_with (go_at_call 90; refine (letter_any _ _).mono ?_; rintro e w' ⟨rfl, rfl⟩)
        go_roundw
        case rel =>
          refine ⟨pos + n, HIT.out, HB.out, fun j hj => ?_⟩
          rcases Nat.lt_or_ge j pos with h | h
          · exact HA.out j h
          · have := (D4.out (j - pos) (by omega)).2
            rwa [show pos + (j - pos) = j by omega] at this
        case measure => rw [HP.out, HP2.out]; omega
      · have hc : letN c = false := by rw [d1]; simpa using hk
        have HE : Hid (wl letN (strB s) = pos) := wl_at (by rw [strB_length]; exact hp) HA.out (by simpa using hk)
        clear d1 hk D3
        go_wp2_with (go_at_call 90; refine (letter_any _ _).mono ?_; rintro e w' ⟨rfl, rfl⟩)
        go_ret
        exact ⟨by rw [HE.out]; rfl, HB.out⟩
    · have hnx : ∀ ty, (Instr.next (.pointer (some ⟨w.heap.size, 0, none⟩)) true ty).run Try.prog wr = _ := fun ty => Lib.run_next_end_at wr w.heap.size s pos ty hit hp
      have HE : Hid (wl letN (strB s) = s.size) := by rw [← strB_length]; exact wl_all (fun j hj => HA.out j (by rw [strB_length] at hj; omega))
      have HB := Lib.hid hb
      clear hb hit hpos
      go_wp2
      go_ret
      exact ⟨by rw [HE.out]; rfl, HB.out⟩
set_option maxRecDepth 100000 in
set_option maxHeartbeats 1000000 in
theorem run_digit (s : ByteArray) (w : World) : Calls Try.prog 69 #[.string s, .func (.func 91) #[] #[]] w fun e w' => e = .returned (.int .i64 (wl digN (strB s) : Nat)) ∧ Below w.heap.size w w' := by
  go_enter Try.func69, Try.ntmps69
  go_wp2
  go_loopw [5] (fun _ wr => ∃ pos : Nat, wr.heap[w.heap.size]? = some (.stringIter s pos) ∧ Below w.heap.size w wr ∧ Hid (∀ j, j < pos → digN (nth (strB s) j) = true)) (fun _ wr => s.size - wr.iterPos w.heap.size)
  case atStart => exact ⟨0, World.iter_heap w s 0, (Below.refl _ _).alloc (Nat.le_refl _) _, fun j hj => by omega⟩
  case round =>
    obtain ⟨pos, hit, hb, HA⟩ := hrel
    have hpos := iterPos_of hit
    by_cases hp : pos < s.size
    · have hnx : ∀ ty, (Instr.next (.pointer (some ⟨w.heap.size, 0, none⟩)) true ty).run Try.prog wr = _ := fun ty => Lib.run_next_any_at wr w.heap.size s pos ty hit hp
      obtain ⟨d1, d2, d3⟩ := dec_kind digN false (fun c hc => by simp [digN]; try omega) s pos hp
      have hit2 := Lib.iterAt_heap wr w.heap.size s pos (pos + (Utf8.decode s pos).2) hit
      have hb2 := Lib.below_iterAt hb (k := w.heap.size) (Nat.le_refl _) s (pos + (Utf8.decode s pos).2)
      have hpos2 := iterPos_of hit2
      generalize wr.iterAt w.heap.size s (pos + (Utf8.decode s pos).2) = W1 at *
      generalize (Utf8.decode s pos).1 = c at *
      generalize (Utf8.decode s pos).2 = n at *
      have D3 := Lib.hid d3
      have HIT := Lib.hid hit2
      have HB := Lib.hid hb2
      have HP := Lib.hid hpos
      have HP2 := Lib.hid hpos2
      clear d3 hit hb hit2 hb2 hpos hpos2
      by_cases hk : digN (nth (strB s) pos) = true
      · have hc : digN c = true := by rw [d1]; exact hk
        have D4 := Lib.hid (D3.out hk)
        clear d1 hk D3
        go_wp2_with (go_at_call 91; refine (digit_any _ _).mono ?_; rintro e w' ⟨rfl, rfl⟩)
        go_roundw
        case rel =>
          refine ⟨pos + n, HIT.out, HB.out, fun j hj => ?_⟩
          rcases Nat.lt_or_ge j pos with h | h
          · exact HA.out j h
          · have := (D4.out (j - pos) (by omega)).2
            rwa [show pos + (j - pos) = j by omega] at this
        case measure => rw [HP.out, HP2.out]; omega
      · have hc : digN c = false := by rw [d1]; simpa using hk
        have HE : Hid (wl digN (strB s) = pos) := wl_at (by rw [strB_length]; exact hp) HA.out (by simpa using hk)
        clear d1 hk D3
        go_wp2_with (go_at_call 91; refine (digit_any _ _).mono ?_; rintro e w' ⟨rfl, rfl⟩)
        go_ret
        exact ⟨by rw [HE.out]; rfl, HB.out⟩
    · have hnx : ∀ ty, (Instr.next (.pointer (some ⟨w.heap.size, 0, none⟩)) true ty).run Try.prog wr = _ := fun ty => Lib.run_next_end_at wr w.heap.size s pos ty hit hp
      have HE : Hid (wl digN (strB s) = s.size) := by rw [← strB_length]; exact wl_all (fun j hj => HA.out j (by rw [strB_length] at hj; omega))
      have HB := Lib.hid hb
      clear hb hit hpos
      go_wp2
      go_ret
      exact ⟨by rw [HE.out]; rfl, HB.out⟩
set_option maxRecDepth 100000 in
set_option maxHeartbeats 1000000 in
theorem run_notnl (s : ByteArray) (w : World) : Calls Try.prog 69 #[.string s, .func (.func 70) #[] #[]] w fun e w' => e = .returned (.int .i64 (wl nlN (strB s) : Nat)) ∧ Below w.heap.size w w' := by
  go_enter Try.func69, Try.ntmps69
  go_wp2
  go_loopw [5] (fun _ wr => ∃ pos : Nat, wr.heap[w.heap.size]? = some (.stringIter s pos) ∧ Below w.heap.size w wr ∧ Hid (∀ j, j < pos → nlN (nth (strB s) j) = true)) (fun _ wr => s.size - wr.iterPos w.heap.size)
  case atStart => exact ⟨0, World.iter_heap w s 0, (Below.refl _ _).alloc (Nat.le_refl _) _, fun j hj => by omega⟩
  case round =>
    obtain ⟨pos, hit, hb, HA⟩ := hrel
    have hpos := iterPos_of hit
    by_cases hp : pos < s.size
    · have hnx : ∀ ty, (Instr.next (.pointer (some ⟨w.heap.size, 0, none⟩)) true ty).run Try.prog wr = _ := fun ty => Lib.run_next_any_at wr w.heap.size s pos ty hit hp
      obtain ⟨d1, d2, d3⟩ := dec_kind nlN true (fun c hc => by simp [nlN]; try omega) s pos hp
      have hit2 := Lib.iterAt_heap wr w.heap.size s pos (pos + (Utf8.decode s pos).2) hit
      have hb2 := Lib.below_iterAt hb (k := w.heap.size) (Nat.le_refl _) s (pos + (Utf8.decode s pos).2)
      have hpos2 := iterPos_of hit2
      generalize wr.iterAt w.heap.size s (pos + (Utf8.decode s pos).2) = W1 at *
      generalize (Utf8.decode s pos).1 = c at *
      generalize (Utf8.decode s pos).2 = n at *
      have D3 := Lib.hid d3
      have HIT := Lib.hid hit2
      have HB := Lib.hid hb2
      have HP := Lib.hid hpos
      have HP2 := Lib.hid hpos2
      clear d3 hit hb hit2 hb2 hpos hpos2
      by_cases hk : nlN (nth (strB s) pos) = true
      · have hc : nlN c = true := by rw [d1]; exact hk
        have D4 := Lib.hid (D3.out hk)
        clear d1 hk D3
        go_wp2_with (go_at_call 70; refine (notnl_any _ _).mono ?_; rintro e w' ⟨rfl, rfl⟩)
        go_roundw
        case rel =>
          refine ⟨pos + n, HIT.out, HB.out, fun j hj => ?_⟩
          rcases Nat.lt_or_ge j pos with h | h
          · exact HA.out j h
          · have := (D4.out (j - pos) (by omega)).2
            rwa [show pos + (j - pos) = j by omega] at this
        case measure => rw [HP.out, HP2.out]; omega
      · have hc : nlN c = false := by rw [d1]; simpa using hk
        have HE : Hid (wl nlN (strB s) = pos) := wl_at (by rw [strB_length]; exact hp) HA.out (by simpa using hk)
        clear d1 hk D3
        go_wp2_with (go_at_call 70; refine (notnl_any _ _).mono ?_; rintro e w' ⟨rfl, rfl⟩)
        go_ret
        exact ⟨by rw [HE.out]; rfl, HB.out⟩
    · have hnx : ∀ ty, (Instr.next (.pointer (some ⟨w.heap.size, 0, none⟩)) true ty).run Try.prog wr = _ := fun ty => Lib.run_next_end_at wr w.heap.size s pos ty hit hp
      have HE : Hid (wl nlN (strB s) = s.size) := by rw [← strB_length]; exact wl_all (fun j hj => HA.out j (by rw [strB_length] at hj; omega))
      have HB := Lib.hid hb
      clear hb hit hpos
      go_wp2
      go_ret
      exact ⟨by rw [HE.out]; rfl, HB.out⟩
end Go.Proofs.Ythmpagehmfillaa
namespace Go.Proofs.Ythmpagehmfillaa
open Go.RowKit
set_option linter.unusedSimpArgs false
set_option linter.unusedVariables false

theorem prefix_eq (s p : ByteArray) : List.isPrefixOf (strB p) (strB s) = (decide (p.size ≤ s.size) && ((s.extract 0 p.size).toList == p.toList)) := by
  rw [Bool.eq_iff_iff]
  simp only [Bool.and_eq_true, decide_eq_true_eq, str_eq, strB_extract, Nat.sub_zero, List.drop_zero]
  rw [List.isPrefixOf_iff_prefix, List.prefix_iff_eq_take, strB_length]
  constructor
  · intro h
    refine ⟨?_, h.symm⟩
    have := congrArg List.length h
    simp only [List.length_take, strB_length] at this
    omega
  · exact fun h => h.2.symm
set_option maxRecDepth 100000 in
theorem sl_hp_any (s p : ByteArray) (w : World) (hs : s.size ≤ 9223372036854775807) (hp : p.size ≤ 9223372036854775807) :
    Calls Try.prog 98 #[.string s, .string p] w fun e w' => e = .returned (.bool (List.isPrefixOf (strB p) (strB s))) ∧ w = w' := by
  have hq := prefix_eq s p
  by_cases h : p.size ≤ s.size
  · rw [decide_eq_true h, Bool.true_and] at hq
    rw [hq]
    have k1 : (p.size : Int) ≤ s.size := by omega
    clear hq
    go_enter Try.func98, Try.ntmps98
    go_wp2
    go_ret
    exact ⟨rfl, rfl⟩
  · rw [decide_eq_false h, Bool.false_and] at hq
    rw [hq]
    have k1 : ¬ (p.size : Int) ≤ s.size := by omega
    clear hq
    go_enter Try.func98, Try.ntmps98
    go_wp2
    go_ret
    exact ⟨rfl, rfl⟩
theorem hp_any (s p : ByteArray) (w : World) (hs : s.size ≤ 9223372036854775807) (hp : p.size ≤ 9223372036854775807) :
    Calls Try.prog 94 #[.string s, .string p] w fun e w' => e = .returned (.bool (List.isPrefixOf (strB p) (strB s))) ∧ w = w' := by
  go_enter Try.func94, Try.ntmps94
  go_wp2_with fail
  refine (sl_hp_any s p _ hs hp).mono ?_
  rintro e w' ⟨rfl, rfl⟩
  go_wp2_with fail
  go_ret
  exact ⟨rfl, rfl⟩

set_option maxRecDepth 100000 in
set_option maxHeartbeats 1000000 in
theorem number_any (s : ByteArray) (w : World) (hs : s.size ≤ 9223372036854775807) (hd : ∀ x ∈ strB s, 48 ≤ x ∧ x < 58) : Calls Try.prog 92 #[.string s] w fun e w' => e = .returned (.int .i64 (numN (strB s) : Nat)) ∧ Below w.heap.size w w' := by
  unfold numN
  rw [strB_length]
  by_cases h5 : 5 < s.size
  · have k : (5 : Int) < s.size := by omega
    rw [if_pos h5]
    clear hd
    go_enter Try.func92, Try.ntmps92
    go_wp2
    go_ret
    exact ⟨rfl, Below.refl _ _⟩
  · have k : ¬ (5 : Int) < s.size := by omega
    rw [if_neg h5]
    have HD := Lib.hid hd
    clear hd
    go_enter Try.func92, Try.ntmps92
    go_wp2
    go_loopw [3] (fun v wr => ∃ pos : Nat, pos ≤ s.size ∧ v = .int .i64 (decN 0 ((strB s).take pos) : Nat) ∧ decN 0 ((strB s).take pos) < 10 ^ pos ∧ wr.heap[w.heap.size]? = some (.stringIter s pos) ∧ Below w.heap.size w wr) (fun _ wr => s.size - wr.iterPos w.heap.size)
    case atStart => exact ⟨0, by omega, rfl, by simp [decN], World.iter_heap w s 0, (Below.refl _ _).alloc (Nat.le_refl _) _⟩
    case round =>
      obtain ⟨pos, hpl, rfl, hlt, hit, hb⟩ := hrel
      have hpos := iterPos_of hit
      by_cases hp : pos < s.size
      · have hc := HD.out (nth (strB s) pos) (by rw [nth_get (by rw [strB_length]; exact hp)]; exact List.getElem_mem _)
        have ha := hc.2
        rw [strB_nth hp] at ha
        have hnx : ∀ ty, (Instr.next (.pointer (some ⟨w.heap.size, 0, none⟩)) true ty).run Try.prog wr = _ := fun ty => Lib.run_next_any_at wr w.heap.size s pos ty hit hp
        have hit2 := Lib.iterAt_heap wr w.heap.size s pos (pos + 1) hit
        have hb2 := Lib.below_iterAt hb (k := w.heap.size) (Nat.le_refl _) s (pos + 1)
        have hpos2 := iterPos_of hit2
        have hsn : (strB s).take (pos + 1) = (strB s).take pos ++ [nth (strB s) pos] := by
          rw [nth_get (by rw [strB_length]; exact hp), List.take_succ_eq_append_getElem (by rw [strB_length]; exact hp)]
        rw [decode_ascii s pos hp (by omega), ← strB_nth hp] at hnx
        have hd1 : decN 0 ((strB s).take (pos + 1)) = decN 0 ((strB s).take pos) * 10 + (nth (strB s) pos - 48) := by rw [hsn, decN_snoc]
        have hp5 : 10 ^ pos ≤ 10 ^ 4 := Nat.pow_le_pow_right (by omega) (by omega)
        have hlt2 : decN 0 ((strB s).take (pos + 1)) < 10 ^ (pos + 1) := by rw [hd1, Nat.pow_succ]; omega
        have hlt3 : decN 0 ((strB s).take pos) < 10000 := by omega
        have HM := Lib.hid hd1
        have HL := Lib.hid hlt2
        clear hd1 hlt2
        generalize decN 0 ((strB s).take pos) = m at *
        generalize nth (strB s) pos = c at *
        generalize wr.iterAt w.heap.size s (pos + 1) = W1 at *
        have HIT := Lib.hid hit2
        have HB := Lib.hid hb2
        have HP := Lib.hid hpos
        have HP2 := Lib.hid hpos2
        have c1 := hc.1
        have c2 := hc.2
        have e1 : IntKind.i32.wrap ((c : Int) - 48) = c - 48 := by simp [IntKind.wrap, IntKind.signed, IntKind.bits]; omega
        have e2 : IntKind.i64.wrap ((c : Int) - 48) = c - 48 := by simp [IntKind.wrap, IntKind.signed, IntKind.bits]; omega
        have e3 : IntKind.i64.wrap ((m : Int) * 10) = m * 10 := by simp [IntKind.wrap, IntKind.signed, IntKind.bits]; omega
        have e4 : IntKind.i64.wrap ((m : Int) * 10 + (c - 48)) = m * 10 + (c - 48) := by simp [IntKind.wrap, IntKind.signed, IntKind.bits]; omega
        clear hit hb hit2 hb2 hpos hpos2 hlt hsn hp5 hc ha
        go_wp2
        go_roundw
        case rel => exact ⟨pos + 1, by omega, by rw [HM.out]; congr 1; omega, HL.out, HIT.out, HB.out⟩
        case measure => rw [HP.out, HP2.out]; omega
      · obtain rfl : pos = s.size := by omega
        have hnx : ∀ ty, (Instr.next (.pointer (some ⟨w.heap.size, 0, none⟩)) true ty).run Try.prog wr = _ := fun ty => Lib.run_next_end_at wr w.heap.size s s.size ty hit (by omega)
        have HE : Hid ((strB s).take s.size = strB s) := List.take_of_length_le (by rw [strB_length]; omega)
        have HB := Lib.hid hb
        clear hb hit hpos hlt
        go_wp2
        go_ret
        exact ⟨by rw [HE.out]; rfl, HB.out⟩
end Go.Proofs.Ythmpagehmfillaa
