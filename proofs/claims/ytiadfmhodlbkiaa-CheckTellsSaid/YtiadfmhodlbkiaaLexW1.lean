/-
  THE WALKS OF lex.run (at its three predicates), lex.number, strings.HasPrefix. Conditions: none but the strings' sizes.
-/
import Derived.Test.YtiadfmhodlbkiaaLexSpec
import Derived.WalkSpells
import Derived.WalkLawsBesides
import Derived.Deep.QuietTactic
import Derived.BigQuiet
import Derived.Outline
namespace Go.Proofs.Ytiadfmhodlbkiaa
open Go.RowKit
set_option linter.unusedSimpArgs false
set_option linter.unusedVariables false

theorem letter_any (c : Nat) (w : World) : Calls Try.prog 65 #[.int .i32 c] w fun e w' => e = .returned (.bool (letN c)) ∧ w = w' := by
  unfold letN
  by_cases h1 : 97 ≤ c
  · have k1 : (97 : Int) ≤ c := by omega
    by_cases h2 : c ≤ 122
    · have k2 : (c : Int) ≤ 122 := by omega
      go_enter Try.func65, Try.ntmps65
      go_wp2
      go_ret
      exact ⟨by simp [h1, h2], rfl⟩
    · have k2 : ¬ (c : Int) ≤ 122 := by omega
      go_enter Try.func65, Try.ntmps65
      go_wp2
      go_ret
      exact ⟨by simp [h1, h2], rfl⟩
  · have k1 : ¬ (97 : Int) ≤ c := by omega
    go_enter Try.func65, Try.ntmps65
    go_wp2
    go_ret
    exact ⟨by simp [h1], rfl⟩
theorem digit_any (c : Nat) (w : World) : Calls Try.prog 66 #[.int .i32 c] w fun e w' => e = .returned (.bool (digN c)) ∧ w = w' := by
  unfold digN
  by_cases h1 : 48 ≤ c
  · have k1 : (48 : Int) ≤ c := by omega
    by_cases h2 : c ≤ 57
    · have k2 : (c : Int) ≤ 57 := by omega
      go_enter Try.func66, Try.ntmps66
      go_wp2
      go_ret
      exact ⟨by simp [h1, h2], rfl⟩
    · have k2 : ¬ (c : Int) ≤ 57 := by omega
      go_enter Try.func66, Try.ntmps66
      go_wp2
      go_ret
      exact ⟨by simp [h1, h2], rfl⟩
  · have k1 : ¬ (48 : Int) ≤ c := by omega
    go_enter Try.func66, Try.ntmps66
    go_wp2
    go_ret
    exact ⟨by simp [h1], rfl⟩
theorem notnl_any (c : Nat) (w : World) : Calls Try.prog 45 #[.int .i32 c] w fun e w' => e = .returned (.bool (nlN c)) ∧ w = w' := by
  unfold nlN
  go_enter Try.func45, Try.ntmps45
  go_wp2
  go_ret
  refine ⟨?_, rfl⟩
  have e : ((c : Int) != 10) = !(c == 10) := by
    rw [Bool.eq_iff_iff]
    simp [bne_iff_ne]
    omega
  show Ending.returned (.bool ((c : Int) != 10)) = _
  rw [e]

theorem dec_kind (k : Nat → Bool) (hi : Bool) (hk : ∀ c, 128 ≤ c → k c = hi) (s : ByteArray) (pos : Nat) (hp : pos < s.size) :
    k (Utf8.decode s pos).1 = k (nth (strB s) pos) ∧ 1 ≤ (Utf8.decode s pos).2 ∧ (k (nth (strB s) pos) = true → ∀ j, j < (Utf8.decode s pos).2 → pos + j < s.size ∧ k (nth (strB s) (pos + j)) = true) := by
  have hn := strB_nth hp
  rcases Nat.lt_or_ge (nth (strB s) pos) 128 with h | h
  · rw [hn] at h
    rw [decode_ascii s pos hp h, ← hn]
    refine ⟨rfl, Nat.le_refl _, fun h1 j hj => ?_⟩
    obtain rfl : j = 0 := by simpa using hj
    exact ⟨hp, h1⟩
  · have h' := h
    rw [hn] at h'
    obtain ⟨h1, h2⟩ := decode_high s pos hp h'
    refine ⟨by rw [hk _ h1, hk _ h], h2, fun h3 j hj => ?_⟩
    obtain ⟨h4, h5⟩ := decode_mid s pos hp h j hj
    exact ⟨h4, by rw [hk _ h5, ← hk _ h]; exact h3⟩
theorem iterPos_of {w : World} {k : Nat} {s : ByteArray} {p : Nat} (h : w.heap[k]? = some (.stringIter s p)) : w.iterPos k = p := by simp [World.iterPos, h]

set_option maxRecDepth 100000 in
set_option maxHeartbeats 1000000 in
theorem run_letter (s : ByteArray) (w : World) : Calls Try.prog 44 #[.string s, .func (.func 65) #[] #[]] w fun e w' => e = .returned (.int .i64 (wl letN (strB s) : Nat)) ∧ Below w.heap.size w w' := by
  go_enter Try.func44, Try.ntmps44
  go_wp2
  go_loopw [5] (fun _ wr => ∃ pos : Nat, wr.heap[w.heap.size]? = some (.stringIter s pos) ∧ Below w.heap.size w wr ∧ Hid (∀ j, j < pos → letN (nth (strB s) j) = true)) (fun _ wr => s.size - wr.iterPos w.heap.size)
  case atStart => exact ⟨0, World.iter_heap w s 0, (Below.refl _ _).alloc (Nat.le_refl _) _, fun j hj => by omega⟩
  case round =>
    obtain ⟨pos, hit, hb, HA⟩ := hrel
    have hpos := iterPos_of hit
    by_cases hp : pos < s.size
    · have hnx : ∀ ty, (Instr.next (.pointer (some ⟨w.heap.size, 0, none⟩)) true ty).run Try.prog wr = _ := fun ty => Lib.run_next_any_at wr w.heap.size s pos ty hit hp
      obtain ⟨d1, d2, d3⟩ := dec_kind letN false (fun c hc => by simp [letN]; try omega) s pos hp
      have hit2 := Lib.iterAt_heap wr w.heap.size s pos (pos + (Utf8.decode s pos).2) hit
      have hb2 := Lib.below_iterAt hb (k := w.heap.size) (Nat.le_refl _) s (pos + (Utf8.decode s pos).2)
      have hpos2 := iterPos_of hit2
      generalize wr.iterAt w.heap.size s (pos + (Utf8.decode s pos).2) = W1 at *
      generalize (Utf8.decode s pos).1 = c at *
      generalize (Utf8.decode s pos).2 = n at *
      have D3 := Lib.hid d3
      have HIT := Lib.hid hit2
      have HB := Lib.hid hb2
      have HP := Lib.hid hpos
      have HP2 := Lib.hid hpos2
      clear d3 hit hb hit2 hb2 hpos hpos2
      by_cases hk : letN (nth (strB s) pos) = true
      · have hc : letN c = true := by rw [d1]; exact hk
        have D4 := Lib.hid (D3.out hk)
        clear d1 hk D3
        go_wp2_with (go_at_call 65; refine (letter_any _ _).mono ?_; rintro e w' ⟨rfl, rfl⟩)
        go_roundw
        case rel =>
          refine ⟨pos + n, HIT.out, HB.out, fun j hj => ?_⟩
          rcases Nat.lt_or_ge j pos with h | h
          · exact HA.out j h
          · have := (D4.out (j - pos) (by omega)).2
            rwa [show pos + (j - pos) = j by omega] at this
        case measure => rw [HP.out, HP2.out]; omega
      · have hc : letN c = false := by rw [d1]; simpa using hk
        have HE : Hid (wl letN (strB s) = pos) := wl_at (by rw [strB_length]; exact hp) HA.out (by simpa using hk)
        clear d1 hk D3
        go_wp2_with (go_at_call 65; refine (letter_any _ _).mono ?_; rintro e w' ⟨rfl, rfl⟩)
        go_ret
        exact ⟨by rw [HE.out]; rfl, HB.out⟩
    · have hnx : ∀ ty, (Instr.next (.pointer (some ⟨w.heap.size, 0, none⟩)) true ty).run Try.prog wr = _ := fun ty => Lib.run_next_end_at wr w.heap.size s pos ty hit hp
      have HE : Hid (wl letN (strB s) = s.size) := by rw [← strB_length]; exact wl_all (fun j hj => HA.out j (by rw [strB_length] at hj; omega))
      have HB := Lib.hid hb
      clear hb hit hpos
      go_wp2
      go_ret
      exact ⟨by rw [HE.out]; rfl, HB.out⟩
set_option maxRecDepth 100000 in
set_option maxHeartbeats 1000000 in
theorem run_digit (s : ByteArray) (w : World) : Calls Try.prog 44 #[.string s, .func (.func 66) #[] #[]] w fun e w' => e = .returned (.int .i64 (wl digN (strB s) : Nat)) ∧ Below w.heap.size w w' := by
  go_enter Try.func44, Try.ntmps44
  go_wp2
  go_loopw [5] (fun _ wr => ∃ pos : Nat, wr.heap[w.heap.size]? = some (.stringIter s pos) ∧ Below w.heap.size w wr ∧ Hid (∀ j, j < pos → digN (nth (strB s) j) = true)) (fun _ wr => s.size - wr.iterPos w.heap.size)
  case atStart => exact ⟨0, World.iter_heap w s 0, (Below.refl _ _).alloc (Nat.le_refl _) _, fun j hj => by omega⟩
  case round =>
    obtain ⟨pos, hit, hb, HA⟩ := hrel
    have hpos := iterPos_of hit
    by_cases hp : pos < s.size
    · have hnx : ∀ ty, (Instr.next (.pointer (some ⟨w.heap.size, 0, none⟩)) true ty).run Try.prog wr = _ := fun ty => Lib.run_next_any_at wr w.heap.size s pos ty hit hp
      obtain ⟨d1, d2, d3⟩ := dec_kind digN false (fun c hc => by simp [digN]; try omega) s pos hp
      have hit2 := Lib.iterAt_heap wr w.heap.size s pos (pos + (Utf8.decode s pos).2) hit
      have hb2 := Lib.below_iterAt hb (k := w.heap.size) (Nat.le_refl _) s (pos + (Utf8.decode s pos).2)
      have hpos2 := iterPos_of hit2
      generalize wr.iterAt w.heap.size s (pos + (Utf8.decode s pos).2) = W1 at *
      generalize (Utf8.decode s pos).1 = c at *
      generalize (Utf8.decode s pos).2 = n at *
      have D3 := Lib.hid d3
      have HIT := Lib.hid hit2
      have HB := Lib.hid hb2
      have HP := Lib.hid hpos
      have HP2 := Lib.hid hpos2
      clear d3 hit hb hit2 hb2 hpos hpos2
      by_cases hk : digN (nth (strB s) pos) = true
      · have hc : digN c = true := by rw [d1]; exact hk
        have D4 := Lib.hid (D3.out hk)
        clear d1 hk D3
        go_wp2_with (go_at_call 66; refine (digit_any _ _).mono ?_; rintro e w' ⟨rfl, rfl⟩)
        go_roundw
        case rel =>
          refine ⟨pos + n, HIT.out, HB.out, fun j hj => ?_⟩
          rcases Nat.lt_or_ge j pos with h | h
          · exact HA.out j h
          · have := (D4.out (j - pos) (by omega)).2
            rwa [show pos + (j - pos) = j by omega] at this
        case measure => rw [HP.out, HP2.out]; omega
      · have hc : digN c = false := by rw [d1]; simpa using hk
        have HE : Hid (wl digN (strB s) = pos) := wl_at (by rw [strB_length]; exact hp) HA.out (by simpa using hk)
        clear d1 hk D3
        go_wp2_with (go_at_call 66; refine (digit_any _ _).mono ?_; rintro e w' ⟨rfl, rfl⟩)
        go_ret
        exact ⟨by rw [HE.out]; rfl, HB.out⟩
    · have hnx : ∀ ty, (Instr.next (.pointer (some ⟨w.heap.size, 0, none⟩)) true ty).run Try.prog wr = _ := fun ty => Lib.run_next_end_at wr w.heap.size s pos ty hit hp
      have HE : Hid (wl digN (strB s) = s.size) := by rw [← strB_length]; exact wl_all (fun j hj => HA.out j (by rw [strB_length] at hj; omega))
      have HB := Lib.hid hb
      clear hb hit hpos
      go_wp2
      go_ret
      exact ⟨by rw [HE.out]; rfl, HB.out⟩
set_option maxRecDepth 100000 in
set_option maxHeartbeats 1000000 in
theorem run_notnl (s : ByteArray) (w : World) : Calls Try.prog 44 #[.string s, .func (.func 45) #[] #[]] w fun e w' => e = .returned (.int .i64 (wl nlN (strB s) : Nat)) ∧ Below w.heap.size w w' := by
  go_enter Try.func44, Try.ntmps44
  go_wp2
  go_loopw [5] (fun _ wr => ∃ pos : Nat, wr.heap[w.heap.size]? = some (.stringIter s pos) ∧ Below w.heap.size w wr ∧ Hid (∀ j, j < pos → nlN (nth (strB s) j) = true)) (fun _ wr => s.size - wr.iterPos w.heap.size)
  case atStart => exact ⟨0, World.iter_heap w s 0, (Below.refl _ _).alloc (Nat.le_refl _) _, fun j hj => by omega⟩
  case round =>
    obtain ⟨pos, hit, hb, HA⟩ := hrel
    have hpos := iterPos_of hit
    by_cases hp : pos < s.size
    · have hnx : ∀ ty, (Instr.next (.pointer (some ⟨w.heap.size, 0, none⟩)) true ty).run Try.prog wr = _ := fun ty => Lib.run_next_any_at wr w.heap.size s pos ty hit hp
      obtain ⟨d1, d2, d3⟩ := dec_kind nlN true (fun c hc => by simp [nlN]; try omega) s pos hp
      have hit2 := Lib.iterAt_heap wr w.heap.size s pos (pos + (Utf8.decode s pos).2) hit
      have hb2 := Lib.below_iterAt hb (k := w.heap.size) (Nat.le_refl _) s (pos + (Utf8.decode s pos).2)
      have hpos2 := iterPos_of hit2
      generalize wr.iterAt w.heap.size s (pos + (Utf8.decode s pos).2) = W1 at *
      generalize (Utf8.decode s pos).1 = c at *
      generalize (Utf8.decode s pos).2 = n at *
      have D3 := Lib.hid d3
      have HIT := Lib.hid hit2
      have HB := Lib.hid hb2
      have HP := Lib.hid hpos
      have HP2 := Lib.hid hpos2
      clear d3 hit hb hit2 hb2 hpos hpos2
      by_cases hk : nlN (nth (strB s) pos) = true
      · have hc : nlN c = true := by rw [d1]; exact hk
        have D4 := Lib.hid (D3.out hk)
        clear d1 hk D3
        go_wp2_with (go_at_call 45; refine (notnl_any _ _).mono ?_; rintro e w' ⟨rfl, rfl⟩)
        go_roundw
        case rel =>
          refine ⟨pos + n, HIT.out, HB.out, fun j hj => ?_⟩
          rcases Nat.lt_or_ge j pos with h | h
          · exact HA.out j h
          · have := (D4.out (j - pos) (by omega)).2
            rwa [show pos + (j - pos) = j by omega] at this
        case measure => rw [HP.out, HP2.out]; omega
      · have hc : nlN c = false := by rw [d1]; simpa using hk
        have HE : Hid (wl nlN (strB s) = pos) := wl_at (by rw [strB_length]; exact hp) HA.out (by simpa using hk)
        clear d1 hk D3
        go_wp2_with (go_at_call 45; refine (notnl_any _ _).mono ?_; rintro e w' ⟨rfl, rfl⟩)
        go_ret
        exact ⟨by rw [HE.out]; rfl, HB.out⟩
    · have hnx : ∀ ty, (Instr.next (.pointer (some ⟨w.heap.size, 0, none⟩)) true ty).run Try.prog wr = _ := fun ty => Lib.run_next_end_at wr w.heap.size s pos ty hit hp
      have HE : Hid (wl nlN (strB s) = s.size) := by rw [← strB_length]; exact wl_all (fun j hj => HA.out j (by rw [strB_length] at hj; omega))
      have HB := Lib.hid hb
      clear hb hit hpos
      go_wp2
      go_ret
      exact ⟨by rw [HE.out]; rfl, HB.out⟩
end Go.Proofs.Ytiadfmhodlbkiaa
