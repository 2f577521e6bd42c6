/-
  THE WALKS OF lex.number, strings.HasPrefix, lex.one. Conditions: none but the strings' sizes.
-/
import Derived.Test.YtiadfmhodlbkiaaLexW1
namespace Go.Proofs.Ytiadfmhodlbkiaa
open Go.RowKit
set_option linter.unusedSimpArgs false
set_option linter.unusedVariables false

theorem prefix_eq (s p : ByteArray) : List.isPrefixOf (strB p) (strB s) = (decide (p.size ≤ s.size) && ((s.extract 0 p.size).toList == p.toList)) := by
  rw [Bool.eq_iff_iff]
  simp only [Bool.and_eq_true, decide_eq_true_eq, str_eq, strB_extract, Nat.sub_zero, List.drop_zero]
  rw [List.isPrefixOf_iff_prefix, List.prefix_iff_eq_take, strB_length]
  constructor
  · intro h
    refine ⟨?_, h.symm⟩
    have := congrArg List.length h
    simp only [List.length_take, strB_length] at this
    omega
  · exact fun h => h.2.symm
set_option maxRecDepth 100000 in
theorem sl_hp_any (s p : ByteArray) (w : World) (hs : s.size ≤ 9223372036854775807) (hp : p.size ≤ 9223372036854775807) :
    Calls Try.prog 79 #[.string s, .string p] w fun e w' => e = .returned (.bool (List.isPrefixOf (strB p) (strB s))) ∧ w = w' := by
  have hq := prefix_eq s p
  by_cases h : p.size ≤ s.size
  · rw [decide_eq_true h, Bool.true_and] at hq
    rw [hq]
    have k1 : (p.size : Int) ≤ s.size := by omega
    clear hq
    go_enter Try.func79, Try.ntmps79
    go_wp2
    go_ret
    exact ⟨rfl, rfl⟩
  · rw [decide_eq_false h, Bool.false_and] at hq
    rw [hq]
    have k1 : ¬ (p.size : Int) ≤ s.size := by omega
    clear hq
    go_enter Try.func79, Try.ntmps79
    go_wp2
    go_ret
    exact ⟨rfl, rfl⟩
theorem hp_any (s p : ByteArray) (w : World) (hs : s.size ≤ 9223372036854775807) (hp : p.size ≤ 9223372036854775807) :
    Calls Try.prog 69 #[.string s, .string p] w fun e w' => e = .returned (.bool (List.isPrefixOf (strB p) (strB s))) ∧ w = w' := by
  go_enter Try.func69, Try.ntmps69
  go_wp2_with fail
  refine (sl_hp_any s p _ hs hp).mono ?_
  rintro e w' ⟨rfl, rfl⟩
  go_wp2_with fail
  go_ret
  exact ⟨rfl, rfl⟩

set_option maxRecDepth 100000 in
set_option maxHeartbeats 1000000 in
theorem number_any (s : ByteArray) (w : World) (hs : s.size ≤ 9223372036854775807) (hd : ∀ x ∈ strB s, 48 ≤ x ∧ x < 58) : Calls Try.prog 67 #[.string s] w fun e w' => e = .returned (.int .i64 (numN (strB s) : Nat)) ∧ Below w.heap.size w w' := by
  unfold numN
  rw [strB_length]
  by_cases h5 : 5 < s.size
  · have k : (5 : Int) < s.size := by omega
    rw [if_pos h5]
    clear hd
    go_enter Try.func67, Try.ntmps67
    go_wp2
    go_ret
    exact ⟨rfl, Below.refl _ _⟩
  · have k : ¬ (5 : Int) < s.size := by omega
    rw [if_neg h5]
    have HD := Lib.hid hd
    clear hd
    go_enter Try.func67, Try.ntmps67
    go_wp2
    go_loopw [3] (fun v wr => ∃ pos : Nat, pos ≤ s.size ∧ v = .int .i64 (decN 0 ((strB s).take pos) : Nat) ∧ decN 0 ((strB s).take pos) < 10 ^ pos ∧ wr.heap[w.heap.size]? = some (.stringIter s pos) ∧ Below w.heap.size w wr) (fun _ wr => s.size - wr.iterPos w.heap.size)
    case atStart => exact ⟨0, by omega, rfl, by simp [decN], World.iter_heap w s 0, (Below.refl _ _).alloc (Nat.le_refl _) _⟩
    case round =>
      obtain ⟨pos, hpl, rfl, hlt, hit, hb⟩ := hrel
      have hpos := iterPos_of hit
      by_cases hp : pos < s.size
      · have hc := HD.out (nth (strB s) pos) (by rw [nth_get (by rw [strB_length]; exact hp)]; exact List.getElem_mem _)
        have ha := hc.2
        rw [strB_nth hp] at ha
        have hnx : ∀ ty, (Instr.next (.pointer (some ⟨w.heap.size, 0, none⟩)) true ty).run Try.prog wr = _ := fun ty => Lib.run_next_any_at wr w.heap.size s pos ty hit hp
        have hit2 := Lib.iterAt_heap wr w.heap.size s pos (pos + 1) hit
        have hb2 := Lib.below_iterAt hb (k := w.heap.size) (Nat.le_refl _) s (pos + 1)
        have hpos2 := iterPos_of hit2
        have hsn : (strB s).take (pos + 1) = (strB s).take pos ++ [nth (strB s) pos] := by
          rw [nth_get (by rw [strB_length]; exact hp), List.take_succ_eq_append_getElem (by rw [strB_length]; exact hp)]
        rw [decode_ascii s pos hp (by omega), ← strB_nth hp] at hnx
        have hd1 : decN 0 ((strB s).take (pos + 1)) = decN 0 ((strB s).take pos) * 10 + (nth (strB s) pos - 48) := by rw [hsn, decN_snoc]
        have hp5 : 10 ^ pos ≤ 10 ^ 4 := Nat.pow_le_pow_right (by omega) (by omega)
        have hlt2 : decN 0 ((strB s).take (pos + 1)) < 10 ^ (pos + 1) := by rw [hd1, Nat.pow_succ]; omega
        have hlt3 : decN 0 ((strB s).take pos) < 10000 := by omega
        have HM := Lib.hid hd1
        have HL := Lib.hid hlt2
        clear hd1 hlt2
        generalize decN 0 ((strB s).take pos) = m at *
        generalize nth (strB s) pos = c at *
        generalize wr.iterAt w.heap.size s (pos + 1) = W1 at *
        have HIT := Lib.hid hit2
        have HB := Lib.hid hb2
        have HP := Lib.hid hpos
        have HP2 := Lib.hid hpos2
        have c1 := hc.1
        have c2 := hc.2
        have e1 : IntKind.i32.wrap ((c : Int) - 48) = c - 48 := by simp [IntKind.wrap, IntKind.signed, IntKind.bits]; omega
        have e2 : IntKind.i64.wrap ((c : Int) - 48) = c - 48 := by simp [IntKind.wrap, IntKind.signed, IntKind.bits]; omega
        have e3 : IntKind.i64.wrap ((m : Int) * 10) = m * 10 := by simp [IntKind.wrap, IntKind.signed, IntKind.bits]; omega
        have e4 : IntKind.i64.wrap ((m : Int) * 10 + (c - 48)) = m * 10 + (c - 48) := by simp [IntKind.wrap, IntKind.signed, IntKind.bits]; omega
        clear hit hb hit2 hb2 hpos hpos2 hlt hsn hp5 hc ha
        go_wp2
        go_roundw
        case rel => exact ⟨pos + 1, by omega, by rw [HM.out]; congr 1; omega, HL.out, HIT.out, HB.out⟩
        case measure => rw [HP.out, HP2.out]; omega
      · obtain rfl : pos = s.size := by omega
        have hnx : ∀ ty, (Instr.next (.pointer (some ⟨w.heap.size, 0, none⟩)) true ty).run Try.prog wr = _ := fun ty => Lib.run_next_end_at wr w.heap.size s s.size ty hit (by omega)
        have HE : Hid ((strB s).take s.size = strB s) := List.take_of_length_le (by rw [strB_length]; omega)
        have HB := Lib.hid hb
        clear hb hit hpos hlt
        go_wp2
        go_ret
        exact ⟨by rw [HE.out]; rfl, HB.out⟩
end Go.Proofs.Ytiadfmhodlbkiaa
